/- wots' calls: contracts. -/
import Derived.Test.YtcfohdkdppiekaaWSteps
import Derived.Test.YtcfohdkdppiekaaRowOps
import Derived.Test.YtcfohdkdppiekaaAppS
namespace Go.Proofs.Ytcfohdkdppiekaa
open Go Go.RowKit Go.Proofs
attribute [local go_sem] Oper.semAt_some
/-- a chain's digit; the last where there is no digest -/
def dgo (d : List UInt8) (i : Nat) : Nat := if d.length = 32 then (digs d).getD i 0 else 15
theorem dgo_le (d : List UInt8) (i : Nat) : dgo d i ≤ 15 := by
  unfold dgo
  split
  · exact digs_get_le d i
  · exact Nat.le_refl _
/-- the box of the digits -/
def DB (d : List UInt8) (pb : Nat) (W : World) : Prop :=
  (d.length = 32 ∧ ∃ b, arr W pb 95 [.slice (some ⟨b, 0, none⟩) 67 67] ∧ arr W b 175 (ics (digs d))) ∨ (d.length ≠ 32 ∧ arr W pb 95 [.slice none 0 0])
section
variable {d : List UInt8} {pb : Nat} {W W' : World}
theorem DB.keep (h : DB d pb W) (hb : Below W.heap.size W W') : DB d pb W' := by
  rcases h with ⟨h1, b, h2, h3⟩ | ⟨h1, h2⟩
  · exact Or.inl ⟨h1, b, h2.keep hb, h3.keep hb⟩
  · exact Or.inr ⟨h1, h2.keep hb⟩
theorem DB.bears {l : Nat} {o o' : Obj} (ho : W.heap[l]? = some o) (hc : o.isCells = false) (h : DB d pb W) : DB d pb (W.putObj l o') := by
  rcases h with ⟨h1, b, h2, h3⟩ | ⟨h1, h2⟩
  · exact Or.inl ⟨h1, b, arr_bears ho hc h2, arr_bears ho hc h3⟩
  · exact Or.inr ⟨h1, arr_bears ho hc h2⟩
theorem ne_of_arr {b g : Nat} {T T' : TypeId} {xs ys : List Value} (h : arr W b T xs) (h' : arr W g T' ys) (hT : T ≠ T') : b ≠ g := by
  rintro rfl
  unfold Go.Proofs.Ytcfohdkdppiekaa.arr at h h'
  rw [h] at h'
  simp only [Option.some.injEq, Obj.cells.injEq] at h'
  exact hT h'.2.1
theorem DB.set {b : Nat} {ys : List Value} (h : DB d pb W) (ha : Go.Proofs.Ytcfohdkdppiekaa.arr W b 26 ys) (off : Nat) (x : Value) : DB d pb (W.setCell ⟨b, off, none⟩ x) := by
  rcases h with ⟨h1, c, h2, h3⟩ | ⟨h1, h2⟩
  · exact Or.inl ⟨h1, c, h2.other _ (ne_of_arr ha h2 (by decide)) _, h3.other _ (ne_of_arr ha h3 (by decide)) _⟩
  · exact Or.inr ⟨h1, h2.other _ (ne_of_arr ha h2 (by decide)) _⟩
theorem DB.row {base n : Nat} {v : Value} {xs : List Value} (h : DB d pb W) (ho : W.ownsRow base 9 1 v n xs) (hg : W.grownBy W' v.ownBlock) : DB d pb W' := by
  rcases h with ⟨h1, c, h2, h3⟩ | ⟨h1, h2⟩
  · exact Or.inl ⟨h1, c, arr_row h2 ho hg (by decide), arr_row h3 ho hg (by decide)⟩
  · exact Or.inr ⟨h1, arr_row h2 ho hg (by decide)⟩
end
set_option maxRecDepth 100000 in
theorem chains_any (d : List UInt8) (hl : d.length ≤ 9223372036854775807) (w : World) :
    Calls Try.prog 158 #[.string ⟨d.toArray⟩] w fun e w' => ∃ pb, e = .returned (.func (.func 171) #[] #[.pointer (some ⟨pb, 0, none⟩)]) ∧ DB d pb w' ∧ Below w.heap.size w w' := by
  go_enter Try.func158, Try.ntmps158
  by_cases hd : d.length = 32
  · have HD := hid hd
    clear hd
    go_wp2_with fail
    refine (digits_any d HD.out w).mono ?_
    rintro e w1 ⟨rfl, a1, b1⟩
    go_wp2
    go_ret
    exact ⟨w1.heap.size, rfl, Or.inl ⟨HD.out, w.heap.size, arr.new w1 _ [_], a1.alloc _⟩, below_all b1 ((Below.refl _ _).alloc (Nat.le_refl _) _)⟩
  · have HD := hid hd
    clear hd
    go_wp2_with fail
    refine (digits_no d hl HD.out w).mono ?_
    rintro e w1 ⟨rfl, hw1⟩
    subst w1
    go_wp2
    go_ret
    exact ⟨w.heap.size, rfl, Or.inr ⟨HD.out, arr.new w _ [_]⟩, (Below.refl _ _).alloc (Nat.le_refl _) _⟩
/-- between two rounds -/
structure Ch (d : List UInt8) (pb : Nat) (I : Nat → World → Prop) (pre : List (Nat × Nat)) (W : World) : Prop where
  len : pre.length ≤ 67
  box : DB d pb W
  own : I pre.length W
structure ChY (d : List UInt8) (pb : Nat) (I : Nat → World → Prop) (pre : List (Nat × Nat)) (x : Nat × Nat) (W : World) : Prop where
  len : pre.length < 67
  val : x = (pre.length, dgo d pre.length)
  box : DB d pb W
  own : I pre.length W
def encP (x : Nat × Nat) : Array Value := #[.int .i64 (x.1 : Int), .int .i64 (x.2 : Int)]
set_option maxRecDepth 100000 in
set_option maxHeartbeats 4000000 in
theorem chains1_iter (l D : Nat) (r : Loop) (d : List UInt8) (pb : Nat) (I : Nat → World → Prop)
    (hy : ∀ pre x W, LoopAt l D r W → ChY d pb I pre x W → YieldsOn Try.prog l D r encP (Ch d pb I) pre x W) (W1 : World) (hL : LoopAt l D r W1) (hJ : Ch d pb I [] W1) :
    CallsIn Fence.wide 0 Try.prog 171 (#[.func (.yield l) #[] #[]] ++ #[.pointer (some ⟨pb, 0, none⟩)]) W1 fun e W' => (∃ v, e = .returned v) ∧ ∃ xs, xs.length = 67 ∧ LoopAt l D r W' ∧ Ch d pb I xs W' := by
  refine callsIn_of_wp Try.func171 rfl trivial ?_ rfl
  simp only [Try.ntmps171, List.size_toArray, List.length_cons, List.length_nil, Nat.reduceAdd, Nat.reduceSub, Array.replicate_succ, Array.replicate_zero, List.push_toArray, List.append_toArray, List.nil_append, List.cons_append]
  have HY := hid hy
  have HL := hid hL
  have HJ := hid hJ
  clear hy hL hJ
  gi_wp2
  gi_loopw [5] (fun i wr => ∃ pre : List (Nat × Nat), i = .int .i64 (pre.length : Int) ∧ LoopAt l D r wr ∧ Ch d pb I pre wr) (fun i _ => 67 - (intOf i).toNat)
  case atStart => exact ⟨[], rfl, HL.out, HJ.out⟩
  case round =>
    obtain ⟨pre, rfl, hl, hd⟩ := hrel
    have hle := hd.len
    have HD := hid hd
    have HLR := hid hl
    clear hl
    by_cases hlt : pre.length < 67
    · have hlt' : (pre.length : Int) < 67 := by omega
      obtain ⟨fn, tmps, assign, body, hyy, hR⟩ := HY.out pre _ wr HLR.out ⟨hlt, rfl, HD.out.box, HD.out.own⟩
      unfold encP at hyy
      simp only [] at hyy
      have HR := hid hR
      rcases hd.box with ⟨h32, b, ab, ad⟩ | ⟨h32, ab⟩
      · have hdg : dgo d pre.length = (digs d).getD pre.length 0 := by unfold dgo; rw [if_pos h32]
        have cb := ab.cell 0 _ rfl
        have lb := ab.lt
        have cd := ad.cell pre.length _ (ics_get (digs d) pre.length (by rw [digs_len]; exact hlt))
        have ld := ad.lt
        rw [← hdg] at cd
        clear hR hd h32 ab ad hdg
        gi_wp2
        refine ⟨rfl, HR.out.mono ?_⟩
        rintro e w3 ⟨rfl, hl3, hd3⟩
        have HL3 := hid hl3
        have HD3 := hid hd3
        clear hl3 hd3 HR
        gi_wp2
        go_roundw
        case rel =>
          refine ⟨_, ?_, HL3.out, HD3.out⟩
          simp
        case measure => simp [intOf]; omega
      · have hdg : dgo d pre.length = 15 := by unfold dgo; rw [if_neg h32]
        have cb := ab.cell 0 _ rfl
        have lb := ab.lt
        rw [hdg, show ((15 : Nat) : Int) = 15 from rfl] at hyy
        clear hR hd h32 ab
        have HDG := hid hdg
        clear hdg
        have hn0 : ¬ (pre.length : Int) < 0 := by omega
        gi_wp2
        refine ⟨rfl, HR.out.mono ?_⟩
        rintro e w3 ⟨rfl, hl3, hd3⟩
        have HL3 := hid hl3
        have HD3 := hid hd3
        clear hl3 hd3 HR
        gi_wp2
        go_roundw
        case rel =>
          refine ⟨_, ?_, HL3.out, HD3.out⟩
          simp
        case measure => simp [intOf]; omega
    · have e : pre.length = 67 := by omega
      have hlt' : ¬ (pre.length : Int) < 67 := by omega
      have HE := hid e
      clear e hlt hd
      gi_wp2
      go_end0
      exact ⟨⟨_, rfl⟩, pre, HE.out, HLR.out, HD.out⟩
theorem chains1_enters : ∀ args w, (callFunc 171 args).run Try.prog w = .ok (.enter 171 args) w := enters_of Try.func171 (by kernel_rfl) rfl
end Go.Proofs.Ytcfohdkdppiekaa
namespace Go.Proofs.Ytcfohdkdppiekaa
open Go Go.RowKit Go.Proofs
attribute [local go_sem] Oper.semAt_some
/-- what along keeps between two rounds -/
structure AI (w : World) (f : Nat → List UInt8) (av : Value) (ab rb base : Nat) (k : Nat) (W : World) : Prop where
  row : ∃ v, arr W rb 26 [v] ∧ ownS W base v ((List.range k).map f)
  fn : arr W ab 169 [av]
  below : Below w.heap.size w W
  big : base ≤ W.heap.size
theorem range_map_succ {α : Type} (f : Nat → α) (k : Nat) : (List.range (k + 1)).map f = (List.range k).map f ++ [f k] := by simp [List.range_succ]
theorem row_base {w : World} {B B' : Nat} {E : TypeId} {v : Value} {n : Nat} {xs : List Value} (h : w.ownsRow B E 1 v n xs) (hB : B' ≤ B) : w.ownsRow B' E 1 v n xs := by
  refine ⟨h.1, ?_⟩
  rcases h.2 with h | ⟨k, cap, cur, h1, h2, h3⟩
  · exact Or.inl h
  · exact Or.inr ⟨k, cap, cur, h1, Nat.le_trans hB h2, h3⟩
theorem below_new {B : Nat} {a w w' : World} {q : Option Nat} (h : Below B a w) (h2 : w.grownBy w' q) (hq : ∀ k, q = some k → B ≤ k) (hB : B ≤ w.heap.size := by omega) : Below B a w' := h.grown h2 hB hq
/-- what one call of the function does -/
def AtFn (w : World) (af : Nat) (bnd cps : Array Value) (d : List UInt8) (f : Nat → List UInt8) : Prop :=
  ∀ i W, i < 67 → Below w.heap.size w W → Calls Try.prog af (bnd ++ (#[.int .i64 (i : Int), .int .i64 (dgo d i : Int)] ++ cps)) W fun e W' => e = .returned (.string ⟨(f i).toArray⟩) ∧ Below W.heap.size W W'
set_option maxRecDepth 100000 in
set_option maxHeartbeats 4000000 in
theorem along_any (d : List UInt8) (hl : d.length ≤ 9223372036854775807) (af : Nat) (bnd cps : Array Value) (f : Nat → List UInt8) (w : World)
    (eg : ∀ args w, (callFunc af args).run Try.prog w = .ok (.enter af args) w) (hat : AtFn w af bnd cps d f) :
    Calls Try.prog 123 #[.string ⟨d.toArray⟩, .func (.func af) bnd cps] w fun e w' => GivesS w ((List.range 67).map f) e w' := by
  obtain ⟨av, hav⟩ : ∃ av, av = Value.func (.func af) bnd cps := ⟨_, rfl⟩
  have HAV := hid hav
  obtain ⟨i0, hi, hz0, hz1, hz2⟩ := info_parts info_str
  have HEG := hid eg
  have HAT := hid hat
  clear eg hat
  refine calls_of_marks Try.func123 rfl ?_
  simp only [Try.ntmps123, List.size_toArray, List.length_cons, List.length_nil, Nat.reduceAdd, Nat.reduceSub, Array.replicate_succ, Array.replicate_zero, List.push_toArray, List.append_toArray, List.nil_append, List.cons_append]
  rw [← hav]
  clear hav
  go_wp2_with fail
  obtain ⟨W1, hW1⟩ : ∃ W1, W1 = (w.alloc (.cells #[av] 169)).alloc (.cells #[.slice none 0 0] 26) := ⟨_, rfl⟩
  have A1 : arr W1 w.heap.size 169 [av] := by rw [hW1]; exact (arr.new w _ [av]).alloc _
  have R1 : arr W1 (w.heap.size + 1) 26 [.slice none 0 0] := by rw [hW1]; exact arr.newAt _ _ [_] _ (by simp)
  have B1 : Below w.heap.size w W1 := by rw [hW1]; exact ((Below.refl _ _).alloc (Nat.le_refl _) _).alloc (by simp) _
  rw [← hW1]
  clear hW1
  refine (chains_any d hl W1).mono ?_
  rintro e w2 ⟨pb, rfl, db, b2⟩
  have B2 := hid (below_all B1 b2)
  have DB2 := hid db
  obtain ⟨ab, hab⟩ : ∃ m, m = w.heap.size := ⟨_, rfl⟩
  obtain ⟨rb, hrb⟩ : ∃ m, m = w.heap.size + 1 := ⟨_, rfl⟩
  have A2 : Hid (arr w2 ab 169 [av]) := hid (by rw [hab]; exact A1.keep b2)
  have R2 : Hid (arr w2 rb 26 [.slice none 0 0]) := hid (by rw [hrb]; exact R1.keep b2)
  have HAB := hid hab
  have HRB := hid hrb
  rw [← hrb, ← hab]
  clear A1 R1 B1 b2 db hab hrb
  go_wp2_with fail
  have hsz2 := B2.out.size
  have hwb : w.heap.size ≤ w2.heap.size := hsz2
  refine wp_range_all (gf := 171) rfl chains1_enters encP (fun x => rfl) (Ch d pb (AI w f av ab rb w2.heap.size)) (ChY d pb (AI w f av ab rb w2.heap.size))
    (fun l pre x a' W => ChY d pb (AI w f av ab rb w2.heap.size) pre x W ∧ ∃ u12 u13 u14 u15 u16 u17 u18 u19, a' = { tmps := #[.string ⟨d.toArray⟩, av, undef, .pointer (some ⟨ab, 0, none⟩), .slice none 0 0, .pointer (some ⟨rb, 0, none⟩), .int .i64 (pre.length : Int), .int .i64 (dgo d pre.length : Int), .string ⟨d.toArray⟩, .func (.func 171) #[] #[.pointer (some ⟨pb, 0, none⟩)], .int .i64 (pre.length : Int), .int .i64 (dgo d pre.length : Int), u12, u13, u14, u15, u16, u17, u18, u19], defers := [] })
    (fun xs => xs.length = 67) ?_ ?_ ?_ ?_ ?assign ?body ?done
  · rintro pre W l o o' hl ho hc ⟨h1, h2, ⟨v, h3, h4⟩, h5, h6, h7⟩
    exact ⟨h1, h2.bears ho hc, ⟨v, arr_bears ho hc h3, row_bears ho hc h4⟩, arr_bears ho hc h5, below_put h6 _ _ (Nat.le_trans hsz2 hl) h6.size, by simpa using h7⟩
  · rintro l0 pre x a' W l o o' hl ho hc ⟨⟨h1, hv, h2, ⟨v, h3, h4⟩, h5, h6, h7⟩, ha⟩
    exact ⟨⟨h1, hv, h2.bears ho hc, ⟨v, arr_bears ho hc h3, row_bears ho hc h4⟩, arr_bears ho hc h5, below_put h6 _ _ (Nat.le_trans hsz2 hl) h6.size, by simpa using h7⟩, ha⟩
  · intro o1 o2
    have hb : Below w2.heap.size w2 ((w2.alloc o1).alloc o2) := ((Below.refl _ _).alloc (Nat.le_refl _) _).alloc (by simp) _
    exact ⟨by simp, DB2.out.keep hb, ⟨_, R2.out.keep hb, ownS.nil _ _⟩, A2.out.keep hb, below_all B2.out hb, hb.size⟩
  · intro l D r W1 hD hl hL hJ hy
    exact chains1_iter l D r d pb _ hy W1 hL hJ
  case assign =>
    intro l pre x W K hjy hK
    have e : (#[10, 11].zip (encP x)).foldl (fun t (p, v) => t.setIfInBounds p v) (#[.string ⟨d.toArray⟩, av, undef, .pointer (some ⟨ab, 0, none⟩), .slice none 0 0, .pointer (some ⟨rb, 0, none⟩), undef, undef, .string ⟨d.toArray⟩, .func (.func 171) #[] #[.pointer (some ⟨pb, 0, none⟩)], undef, undef, undef, undef, undef, undef, undef, undef, undef, undef] : Array Value) = #[.string ⟨d.toArray⟩, av, undef, .pointer (some ⟨ab, 0, none⟩), .slice none 0 0, .pointer (some ⟨rb, 0, none⟩), undef, undef, .string ⟨d.toArray⟩, .func (.func 171) #[] #[.pointer (some ⟨pb, 0, none⟩)], .int .i64 (x.1 : Int), .int .i64 (x.2 : Int), undef, undef, undef, undef, undef, undef, undef, undef] := by simp [encP]
    rw [e]
    have hx := hjy.val
    obtain rfl := hx
    clear e
    have HJY := hid hjy
    clear hjy
    gi_wp2
    exact hK _ _ (KeepsOthers.refl _) ⟨HJY.out, _, _, _, _, _, _, _, _, rfl⟩
  case body =>
    rintro l pre x a' W ⟨h, u12, u13, u14, u15, u16, u17, u18, u19, rfl⟩
    obtain ⟨⟨v0, h1, h2⟩, h3, h4, h5⟩ := h.own
    have H5 := hid h5
    obtain ⟨A0, c0, hv0⟩ := row_form h2
    rw [List.length_map, List.length_range] at hv0
    subst hv0
    have cr := h1.cell 0 _ rfl
    have lr := h1.lt
    have ca := h3.cell 0 _ rfl
    have la := h3.lt
    have H := hid h
    have H1 := hid h1
    have H2 := hid h2
    have H3 := hid h3
    have H4 := hid h4
    clear h h1 h2 h3 h4 h5
    have hS : W.drew.cell? ⟨rb, 0, none⟩ = some (.slice A0 pre.length c0) ∧ W.drew.cell? ⟨ab, 0, none⟩ = some av ∧ rb < W.drew.heap.size ∧ ab < W.drew.heap.size := ⟨cr, ca, lr, la⟩
    clear cr ca lr la
    gi_wp2_with fail
    refine wpIn_region_sched (some l) (fun V => V.cell? ⟨rb, 0, none⟩ = some (.slice A0 pre.length c0) ∧ V.cell? ⟨ab, 0, none⟩ = some av ∧ rb < V.heap.size ∧ ab < V.heap.size) [(true, 0), (true, 1), (true, 2), (true, 3), (false, 4), (false, 5)] 6 rfl (by kernel_rfl) (by kernel_rfl) (by kernel_rfl) (by decide) rfl (by kernel_rfl) (by kernel_rfl) hS ?_
    refine sq_soft rfl (by kernel_rfl) (fun V hV => (by obtain ⟨hV1, hV2, hV3, hV4⟩ := hV; go_simp; try rfl)) ?_; go_frame
    refine sq_soft rfl (by kernel_rfl) (fun V hV => (by obtain ⟨hV1, hV2, hV3, hV4⟩ := hV; go_simp; try rfl)) ?_; go_frame
    refine sq_soft rfl (by kernel_rfl) (fun V hV => (by obtain ⟨hV1, hV2, hV3, hV4⟩ := hV; go_simp; try rfl)) ?_; go_frame
    refine sq_soft rfl (by kernel_rfl) (fun V hV => (by obtain ⟨hV1, hV2, hV3, hV4⟩ := hV; go_simp; try rfl)) ?_; go_frame
    refine sq_op rfl (by kernel_rfl) ?_
    rw [HAV.out]
    have eg := HEG.out
    go_simp
    have hb0 : Below W.heap.size W W.drew := (Below.refl _ _).drew
    refine (HAT.out pre.length W.drew H.out.len (below_all H4.out hb0)).mono ?_
    rintro e W3 ⟨rfl, b3⟩
    have b3' := below_all hb0 b3
    have R3 := H1.out.keep b3'
    have F3 := H3.out.keep b3'
    refine ⟨⟨R3.cell 0 _ rfl, by rw [← HAV.out]; exact F3.cell 0 _ rfl, R3.lt, F3.lt⟩, ?_⟩
    have HR3 := hid R3
    have HF3 := hid F3
    have O3 := hid (row_below H2.out b3')
    have D3 := hid (H.out.box.keep b3')
    have L3 : w2.heap.size ≤ W3.heap.size := Nat.le_trans H5.out b3'.size
    have B3 := hid (below_all H4.out b3')
    have K3 := hid (keeps_below b3')
    clear b3 b3' hb0 R3 F3 eg
    try go_frame
    refine sq_op rfl (by kernel_rfl) ?_
    go_simp
    obtain ⟨W4, hW4⟩ : ∃ W4, W4 = W3.alloc (.cells #[.string ⟨(f pre.length).toArray⟩] 9) := ⟨_, rfl⟩
    have hal : Below W3.heap.size W3 W4 := by rw [hW4]; exact (Below.refl _ _).alloc (Nat.le_refl _) _
    have N4 : arr W4 W3.heap.size 9 [.string ⟨(f pre.length).toArray⟩] := by rw [hW4]; exact arr.new W3 _ _
    have R4 := HR3.out.keep hal
    have F4 := HF3.out.keep hal
    have O4 := hid (row_cast (row_below O3.out hal) (by rw [List.length_map, List.length_range]) rfl)
    have L4 := hal.size
    have D4 := hid (D3.out.keep hal)
    have B4 := hid (below_all B3.out hal)
    have K4 := hid (K3.out.trans (keeps_below hal))
    have HN4 := hid N4
    have HR4 := hid R4
    have HF4 := hid F4
    rw [← hW4]
    have hsz4 : W3.heap.size + 1 = W4.heap.size := by rw [hW4]; simp
    rw [hsz4]
    refine ⟨⟨R4.cell 0 _ rfl, by rw [← HAV.out]; exact F4.cell 0 _ rfl, R4.lt, F4.lt⟩, ?_⟩
    clear hsz4 hW4 hal N4 R4 F4 HR3 HF3 O3 D3 B3 K3
    try go_frame
    refine sched_done ?_
    gi_wp2_with (refine wpListIn_append_row (b := W3.heap.size) rfl _ _ 26 rfl i0 (.string ByteArray.empty) 16 Try.underlying26 hi hz0 hz1 hz2 rfl rfl O4.out [.string ⟨(f pre.length).toArray⟩] rfl HN4.out (by intro u hu; obtain rfl := List.mem_singleton.1 hu; rfl) (by have h := H.out.len; simp; omega) (by decide) (by omega) ?_; intro v' w' ho' hg'; obtain ⟨A', c', rfl⟩ := row_form ho'; have a9 := arr_row HR4.out O4.out hg' (by decide); have l9 := a9.lt; have f9 := a9.free 0; have c9 := a9.cell 0 _ rfl; have HA9 := hid a9; have HO9 := hid ho'; have HG9 := hid hg'; clear a9 ho' hg')
    have e1 : (pre ++ [x]).length = pre.length + 1 := by simp
    refine ⟨(K4.out.trans (keeps_row O4.out HG9.out)).trans (KeepsOthers.setCell _ _ _), ?_, ?_, ?_⟩
    · rw [e1]; exact H.out.len
    · exact (D4.out.row O4.out HG9.out).set HA9.out 0 _
    · rw [e1]
      refine ⟨⟨_, HA9.out.set 0 _, ?_⟩, ?_, ?_, ?_⟩
      · exact row_cast (row_set HO9.out HA9.out (by decide) 0 _) (by simp) (by rw [range_map_succ, scs_app]; rfl)
      · exact (arr_row HF4.out O4.out HG9.out (by decide)).other _ (ne_of_arr HA9.out (arr_row HF4.out O4.out HG9.out (by decide)) (by decide)) _
      · refine (below_new B4.out HG9.out (fun k hk => Nat.le_trans hwb (row_lt O4.out k hk).1)).setCell (p := ⟨rb, 0, none⟩) (by have := HRB.out; show w.heap.size ≤ rb; omega) _
      · have := HG9.out.size
        show w2.heap.size ≤ (w'.setCell _ _).heap.size
        simp [World.setCell]; omega
  case done =>
    rintro D xs W hD hxs hJ hdf
    obtain ⟨⟨v0, h1, h2⟩, h3, h4, h5⟩ := hJ.own
    rw [hxs] at h2
    have cr := h1.cell 0 _ rfl
    have lr := h1.lt
    have H2 := hid h2
    have H4 := hid h4
    have HDF := hid hdf
    have HDD := hid hD
    clear h1 h2 h3 h4 hJ hdf hD
    go_wp2
    refine marks_ret rfl HDF.out (results_tmp rfl _ _ _) ⟨_, rfl, ?_, below_put H4.out _ _ (Nat.le_trans hsz2 HDD.out) H4.out.size⟩
    exact row_base (row_bears HDF.out rfl H2.out) hsz2
end Go.Proofs.Ytcfohdkdppiekaa
namespace Go.Proofs.Ytcfohdkdppiekaa
open Go Go.RowKit Go.Proofs
attribute [local go_sem] Oper.semAt_some
def startV (seed : List UInt8) (index : Nat) : Value := .agg #[.string ⟨seed.toArray⟩, .string ⟨(b8 index).toArray⟩]
theorem fparts_le (L : List (List UInt8)) (b : Nat) (hb : ∀ s ∈ L, s.length ≤ b) : (fparts L).length ≤ L.length * (b + 8) := by
  induction L with
  | nil => simp [fparts]
  | cons x L ih =>
    have h1 := hb x (by simp)
    have h2 := ih fun s hs => hb s (List.mem_cons_of_mem _ hs)
    have e : (fparts (x :: L)).length = 8 + x.length + (fparts L).length := by simp [fparts, b8_len]; omega
    rw [e, List.length_cons, Nat.add_mul, Nat.one_mul]; omega
theorem fparts67_le (L : List (List UInt8)) (hl : L.length = 67) (hb : ∀ s ∈ L, s.length = 32) : (fparts L).length ≤ 100000000000 := by
  have := fparts_le L 32 fun s hs => by rw [hb s hs]; omega
  rw [hl] at this; omega
set_option maxRecDepth 100000 in
set_option maxHeartbeats 4000000 in
theorem at_any (seed : List UInt8) (hs : seed.length ≤ 1000) (index i tt : Nat) (hi : i ≤ 66) (ht : tt ≤ 15) (w : World) :
    Calls Try.prog 125 #[startV seed index, .int .i64 (i : Int), .int .i64 (tt : Int)] w fun e w' => e = .returned (.string ⟨(wlk i 0 tt (scr seed index i)).toArray⟩) ∧ Below w.heap.size w w' := by
  have hi256 : i < 256 := by omega
  unfold startV
  go_enter Try.func125, Try.ntmps125
  go_wp2_with (refine wpList_b2s rfl _ rfl _ 0 1 1 [UInt8.ofNat i] rfl rfl (byte_cells i hi256 (arr.newAt _ _ [_] _ (by simp))) ?_)
  have B0 := (((Below.refl w.heap.size w).alloc (Nat.le_refl _) (.cells #[.string ⟨seed.toArray⟩, .string ⟨(b8 index).toArray⟩] 171)).alloc (by simp) (.cells #[.int .u8 (i : Int)] 5))
  obtain ⟨W2, hW2⟩ : ∃ W2, W2 = (w.alloc (.cells #[.string ⟨seed.toArray⟩, .string ⟨(b8 index).toArray⟩] 171)).alloc (.cells #[.int .u8 (i : Int)] 5) := ⟨_, rfl⟩
  have hsz : w.heap.size + 1 + 1 = W2.heap.size := by rw [hW2]; simp
  rw [← hW2] at B0
  rw [← hW2, hsz]
  have hp := parts3_len seed (b8 index) [UInt8.ofNat i] 2000 (by rw [b8_len]; simp; omega)
  refine (hash_any tSecret [seed, b8 index, [UInt8.ofNat i]] _ _ (strsAt.lit' W2 [seed, b8 index, [UInt8.ofNat i]] (by simp [b8_len]; omega) (by simp) 9) (by decide) (by omega) (by simp [b8_len]; omega)).mono ?_
  rintro e w4 ⟨rfl, b4⟩
  have B4 := hid ((B0.alloc B0.size _).trans (b4.mono (by have := B0.size; simp; omega)))
  have hsc : hsh tSecret [seed, b8 index, [UInt8.ofNat i]] = scr seed index i := rfl
  rw [hsc]
  clear b4 B0 hp hsz hW2 hsc
  go_wp2_with fail
  refine (walk_any i 0 tt hi (Nat.zero_le _) ht (scr seed index i) (by rw [scr_len]; omega) w4).mono ?_
  rintro e w5 ⟨rfl, b5⟩
  have B5 := hid (below_all B4.out b5)
  clear b5 B4
  go_wp2
  go_ret
  exact ⟨rfl, B5.out⟩
set_option maxRecDepth 100000 in
theorem key_any (seed : List UInt8) (index : Nat) (hx : index ≤ 18446744073709551615) (w : World) :
    Calls Try.prog 124 #[.string ⟨seed.toArray⟩, .int .u64 (index : Int)] w fun e w' => e = .returned (startV seed index) ∧ Below w.heap.size w w' := by
  go_enter Try.func124, Try.ntmps124
  go_wp2_with fail
  refine (num_any (index : Int) (by omega) (by omega) _).mono ?_
  rintro e w1 ⟨rfl, b1⟩
  rw [Int.toNat_natCast]
  have A0 := (arr.new w 171 [.string ByteArray.empty, .string ByteArray.empty]).keep b1
  have B1 := below_all ((Below.refl w.heap.size w).alloc (Nat.le_refl _) (.cells #[.string ByteArray.empty, .string ByteArray.empty] 171)) b1
  go_wp2_with (refine wpList_store_arr rfl 171 _ _ rfl w.heap.size [.string ⟨seed.toArray⟩, .string ⟨(b8 index).toArray⟩] rfl rfl _ _ A0 (by kernel_rfl) rfl rfl ?_; intro w4 hw4; have A4 := hid (show arr w4 w.heap.size _ _ from hw4 ▸ A0.row _); have B4 := hid (show Below w.heap.size w w4 from hw4 ▸ below_setRow' B1 (Nat.le_refl _) _); clear hw4)
  refine bodyPost_ret (arr.results rfl _ _ _ _ _ _ rfl A4.out Try.underlying171 rfl (by kernel_rfl)) rfl ⟨rfl, B4.out⟩
theorem at_enters : ∀ args w, (callFunc 125 args).run Try.prog w = .ok (.enter 125 args) w := enters_of Try.func125 (by kernel_rfl) rfl
/-- along with a key's start -/
theorem along_at (seed : List UInt8) (hs : seed.length ≤ 1000) (index : Nat) (d : List UInt8) (hl : d.length ≤ 9223372036854775807) (w : World) :
    Calls Try.prog 123 #[.string ⟨d.toArray⟩, .func (.func 125) #[startV seed index] #[]] w fun e w' => GivesS w ((List.range 67).map fun i => wlk i 0 (dgo d i) (scr seed index i)) e w' :=
  along_any d hl _ _ _ _ w at_enters fun i W hi _ => at_any seed hs index i (dgo d i) (by omega) (dgo_le d i) W
set_option maxRecDepth 100000 in
set_option maxHeartbeats 4000000 in
theorem public_any (seed : List UInt8) (hs : seed.length ≤ 1000) (index : Nat) (hx : index ≤ 18446744073709551615) (w : World) :
    Calls Try.prog 73 #[.string ⟨seed.toArray⟩, .int .u64 (index : Int)] w fun e w' => e = .returned (.string ⟨(pub seed index).toArray⟩) ∧ Below w.heap.size w w' := by
  go_enter Try.func73, Try.ntmps73
  go_wp2_with fail
  refine (key_any seed index hx w).mono ?_
  rintro e w1 ⟨rfl, b1⟩
  have B1 := hid b1
  clear b1
  go_wp2_with fail
  refine (along_at seed hs index [] (by simp) w1).mono ?_
  rintro e w2 ⟨v, rfl, o2, b2⟩
  have B2 := hid (below_all B1.out b2)
  have hf : ((List.range 67).map fun i => wlk i 0 (dgo [] i) (scr seed index i)) = (List.range 67).map fun i => wlk i 0 15 (scr seed index i) := range_map_congr fun i _ => by rw [show dgo [] i = 15 from rfl]
  rw [hf] at o2
  have hll : ∀ s ∈ (List.range 67).map fun i => wlk i 0 15 (scr seed index i), s.length = 32 := by
    intro s hs
    obtain ⟨i, _, rfl⟩ := List.mem_map.1 hs
    exact wlk_len _ _ _ _ (scr_len _ _ _)
  have hst := o2.strs (fun s hs => by rw [hll s hs]; omega)
  have HST := hid hst
  have HLL := hid hll
  clear b2 o2 hst hf hll B1
  go_wp2_with fail
  refine (hash_any tPublic _ v w2 HST.out (by decide) (fparts67_le _ (by simp) HLL.out) (fun s hs => by rw [HLL.out s hs]; omega)).mono ?_
  rintro e w3 ⟨rfl, b3⟩
  have B3 := hid (below_all B2.out b3)
  have hpub : hsh tPublic ((List.range 67).map fun i => wlk i 0 15 (scr seed index i)) = pub seed index := rfl
  rw [hpub]
  clear b3 B2 HST hpub
  go_wp2
  go_ret
  exact ⟨rfl, B3.out⟩
end Go.Proofs.Ytcfohdkdppiekaa
namespace Go.Proofs.Ytcfohdkdppiekaa
open Go Go.RowKit Go.Proofs
attribute [local go_sem] Oper.semAt_some
set_option maxRecDepth 100000 in
set_option maxHeartbeats 4000000 in
theorem sign_any (seed : List UInt8) (hs : seed.length ≤ 1000) (index : Nat) (hx : index ≤ 18446744073709551615) (d : List UInt8) (hd : d.length = 32) (w : World) :
    Calls Try.prog 71 #[.string ⟨seed.toArray⟩, .int .u64 (index : Int), .string ⟨d.toArray⟩] w fun e w' => ∃ v, e = .returned (.tuple #[v, .int .i64 0]) ∧ ownS w' w.heap.size v (sgn seed index d) ∧ Below w.heap.size w w' := by
  have hdI : (d.length : Int) = 32 := by omega
  have HD := hid hd
  clear hd
  go_enter Try.func71, Try.ntmps71
  go_wp2_with fail
  refine (key_any seed index hx w).mono ?_
  rintro e w1 ⟨rfl, b1⟩
  have B1 := hid b1
  clear b1
  go_wp2_with fail
  refine (along_at seed hs index d (by rw [HD.out]; omega) w1).mono ?_
  rintro e w2 ⟨v, rfl, o2, b2⟩
  have B2 := hid (below_all B1.out b2)
  have hf : ((List.range 67).map fun i => wlk i 0 (dgo d i) (scr seed index i)) = sgn seed index d := range_map_congr fun i _ => by rw [show dgo d i = (digs d).getD i 0 from if_pos HD.out]
  rw [hf] at o2
  have O2 := hid (row_base o2 B1.out.size)
  clear o2 b2 hf
  go_wp2
  refine bodyPost_ret (results_tmp2 rfl _ _ _) rfl ⟨v, rfl, O2.out, B2.out⟩
set_option maxRecDepth 100000 in
theorem sign_no (seed : List UInt8) (index : Nat) (d : List UInt8) (hl : d.length ≤ 9223372036854775807) (hd : d.length ≠ 32) (w : World) :
    Calls Try.prog 71 #[.string ⟨seed.toArray⟩, .int .u64 (index : Int), .string ⟨d.toArray⟩] w fun e w' => e = .returned (.tuple #[.slice none 0 0, .int .i64 2]) ∧ w' = w := by
  have hdI : ¬ (d.length : Int) = 32 := by omega
  go_enter Try.func71, Try.ntmps71
  go_wp2
  refine bodyPost_ret (results_tmp2 rfl _ _ _) rfl ⟨rfl, rfl⟩
/-- is a text 32 bytes long -/
theorem rec1_any (s : List UInt8) (hl : s.length ≤ 9223372036854775807) (w : World) :
    Calls Try.prog 130 #[.string ⟨s.toArray⟩] w fun e w' => e = .returned (.bool (decide (s.length ≠ 32))) ∧ w' = w := by
  go_enter Try.func130, Try.ntmps130
  by_cases hd : s.length = 32
  · have hdI : (s.length : Int) = 32 := by omega
    go_wp2
    go_ret
    exact ⟨by simp [hd], rfl⟩
  · have hdI : ¬ (s.length : Int) = 32 := by omega
    go_wp2
    go_ret
    exact ⟨by simp [hd, hdI], rfl⟩
theorem rec1_enters : ∀ args w, (callFunc 130 args).run Try.prog w = .ok (.enter 130 args) w := enters_of Try.func130 (by kernel_rfl) rfl
set_option maxRecDepth 100000 in
set_option maxHeartbeats 4000000 in
theorem index_any (L : List (List UInt8)) (v : Value) (w : World) (hv : strsAt w w.heap.size v L) :
    Calls Try.prog 159 #[v, .func (.func 130) #[] #[]] w fun e w' => (∃ k : Int, e = .returned (.int .i64 k) ∧ (((∀ s ∈ L, s.length = 32) ∧ k = -1) ∨ ((∃ s ∈ L, s.length ≠ 32) ∧ 0 ≤ k))) ∧ w' = w := by
  obtain ⟨⟨A, c, rfl, hlc, hc, hx⟩, ht⟩ := hv
  have HX := hid hx
  have HT := hid ht
  clear hx ht
  go_enter Try.func159, Try.ntmps159
  go_wp2
  go_loopw [8] (fun i wr => ∃ k : Nat, k ≤ L.length ∧ i = .int .i64 k ∧ (∀ s ∈ L.take k, s.length = 32) ∧ wr = w) (fun i _ => L.length - (intOf i).toNat)
  case atStart => exact ⟨0, by omega, rfl, by simp, rfl⟩
  case round =>
    obtain ⟨k, hk, rfl, hall, rfl⟩ := hrel
    by_cases hlt : k < L.length
    · obtain ⟨a, rfl, hab, hcell⟩ := HX.out k hlt
      have hak : (a.add k).block < wr.heap.size := by rw [block_add]; exact hab
      have hlt' : (k : Int) < (L.length : Int) := by omega
      obtain ⟨s, hs⟩ : ∃ s, s = L.getD k [] := ⟨_, rfl⟩
      have hmem : s ∈ L := by rw [hs, List.getD_eq_getElem?_getD, List.getElem?_eq_getElem hlt]; exact List.getElem_mem hlt
      have htk : L.take (k + 1) = L.take k ++ [s] := by rw [hs, List.take_add_one, List.getElem?_eq_getElem hlt, List.getD_eq_getElem?_getD, List.getElem?_eq_getElem hlt]; rfl
      rw [← hs] at hcell
      have HALL := hid hall
      have HTK := hid htk
      have HMEM := hid hmem
      clear hs hall htk hmem
      go_wp2_with fail
      refine (rec1_any s (HT.out _ HMEM.out) wr).mono ?_
      rintro e w2 ⟨rfl, hw2⟩
      subst w2
      by_cases h32 : s.length = 32
      · have hdec : decide (s.length ≠ 32) = false := by simp [h32]
        rw [hdec]
        have H32 := hid h32
        clear h32 hdec
        go_wp2
        go_roundw
        case rel =>
          refine ⟨k + 1, by omega, by go_num, ?_, by trivial⟩
          rw [HTK.out]
          intro t ht
          rcases List.mem_append.1 ht with h | h
          · exact HALL.out t h
          · obtain rfl := List.mem_singleton.1 h
            exact H32.out
        case measure => simp [intOf]; omega
      · have hdec : decide (s.length ≠ 32) = true := by simp [h32]
        rw [hdec]
        have H32 := hid h32
        clear h32 hdec
        go_wp2
        go_ret
        exact ⟨⟨_, rfl, Or.inr ⟨⟨s, HMEM.out, H32.out⟩, by omega⟩⟩, by trivial⟩
    · have hlt' : ¬ (k : Int) < (L.length : Int) := by omega
      have hta : L.take k = L := List.take_of_length_le (by omega)
      rw [hta] at hall
      have HALL := hid hall
      clear hall hta hlt
      go_wp2
      go_ret
      exact ⟨⟨_, rfl, Or.inl ⟨HALL.out, rfl⟩⟩, rfl⟩
set_option maxRecDepth 100000 in
theorem contains_any (L : List (List UInt8)) (v : Value) (w : World) (hv : strsAt w w.heap.size v L) :
    Calls Try.prog 129 #[v, .func (.func 130) #[] #[]] w fun e w' => (∃ b : Bool, e = .returned (.bool b) ∧ (((∀ s ∈ L, s.length = 32) ∧ b = false) ∨ ((∃ s ∈ L, s.length ≠ 32) ∧ b = true))) ∧ w' = w := by
  have HV := hid hv
  clear hv
  go_enter Try.func129, Try.ntmps129
  go_wp2_with fail
  refine (index_any L v w HV.out).mono ?_
  rintro e w2 ⟨⟨k, rfl, hk⟩, hw2⟩
  subst w2
  rcases hk with ⟨h1, rfl⟩ | ⟨h1, h2⟩
  · have H1 := hid h1
    clear h1
    go_wp2
    go_ret
    exact ⟨⟨_, rfl, Or.inl ⟨H1.out, rfl⟩⟩, rfl⟩
  · have H1 := hid h1
    clear h1
    go_wp2
    go_ret
    exact ⟨⟨_, rfl, Or.inr ⟨H1.out, rfl⟩⟩, rfl⟩
/-- a walk from a signature's text to its chain's end -/
theorem rec2_enters : ∀ args w, (callFunc 131 args).run Try.prog w = .ok (.enter 131 args) w := enters_of Try.func131 (by kernel_rfl) rfl
set_option maxRecDepth 100000 in
theorem rec2_any (L : List (List UInt8)) (hL : L.length = 67) (h32 : ∀ s ∈ L, s.length = 32) (v : Value) (pb i j : Nat) (hi : i < 67) (hj : j ≤ 15) (w : World) (hv : strsAt w w.heap.size v L) (hb : arr w pb 26 [v]) :
    Calls Try.prog 131 #[.int .i64 (i : Int), .int .i64 (j : Int), .pointer (some ⟨pb, 0, none⟩)] w fun e w' => e = .returned (.string ⟨(wlk i j 15 (L.getD i [])).toArray⟩) ∧ Below w.heap.size w w' := by
  obtain ⟨⟨A, c, rfl, hlc, hc, hx⟩, ht⟩ := hv
  obtain ⟨a, rfl, hab, hcell⟩ := hx i (by omega)
  have hak : (a.add i).block < w.heap.size := by rw [block_add]; exact hab
  have cb := hb.cell 0 _ rfl
  have lb := hb.lt
  have hll : (L.getD i []).length = 32 := h32 _ (by rw [List.getD_eq_getElem?_getD, List.getElem?_eq_getElem (by omega)]; exact List.getElem_mem _)
  obtain ⟨s, hs⟩ : ∃ s, s = L.getD i [] := ⟨_, rfl⟩
  rw [← hs] at hcell hll ⊢
  have HLL := hid hll
  have hi' : (i : Int) < (L.length : Int) := by omega
  clear hx ht h32 hs hll hb
  go_enter Try.func131, Try.ntmps131
  go_wp2_with fail
  refine (walk_any i j 15 (by omega) hj (Nat.le_refl _) s (by rw [HLL.out]; omega) w).mono ?_
  rintro e w2 ⟨rfl, b2⟩
  have B2 := hid b2
  clear b2
  go_wp2
  go_ret
  exact ⟨rfl, B2.out⟩
/-- along with a signature -/
theorem along_sig (L : List (List UInt8)) (hL : L.length = 67) (h32 : ∀ s ∈ L, s.length = 32) (v : Value) (pb : Nat) (d : List UInt8) (hd : d.length = 32) (w : World) (hv : strsAt w w.heap.size v L) (hb : arr w pb 26 [v]) :
    Calls Try.prog 123 #[.string ⟨d.toArray⟩, .func (.func 131) #[] #[.pointer (some ⟨pb, 0, none⟩)]] w fun e w' => GivesS w (endsOf L d) e w' := by
  refine (along_any d (by omega) _ _ _ (fun i => wlk i ((digs d).getD i 0) 15 (L.getD i [])) w rec2_enters fun i W hi hbw => ?_).mono fun e w' h => h
  have h := rec2_any L hL h32 v pb i (dgo d i) hi (dgo_le d i) W (hv.keep' hbw) (hb.keep hbw)
  rw [show (wlk i (dgo d i) 15 (L.getD i [])) = wlk i ((digs d).getD i 0) 15 (L.getD i []) from by rw [show dgo d i = (digs d).getD i 0 from if_pos hd]] at h
  exact h
/-- what Recover answers -/
def rcv (L : List (List UInt8)) (d : List UInt8) (out : List UInt8) (n : Nat) : Prop :=
  (d.length ≠ 32 ∧ out = [] ∧ n = 2) ∨ (d.length = 32 ∧ (L.length ≠ 67 ∨ ∃ s ∈ L, s.length ≠ 32) ∧ out = [] ∧ n = 10) ∨ (d.length = 32 ∧ L.length = 67 ∧ (∀ s ∈ L, s.length = 32) ∧ out = recv L d ∧ n = 0)
theorem rcv_one {L : List (List UInt8)} {d out out' : List UInt8} {n n' : Nat} (h : rcv L d out n) (h' : rcv L d out' n') : out = out' ∧ n = n' := by
  rcases h with ⟨h1, h2, h3⟩ | ⟨h1, h2, h3, h4⟩ | ⟨h1, h2, h3, h4, h5⟩ <;> rcases h' with ⟨g1, g2, g3⟩ | ⟨g1, g2, g3, g4⟩ | ⟨g1, g2, g3, g4, g5⟩
  · exact ⟨h2.trans g2.symm, h3.trans g3.symm⟩
  · exact absurd g1 h1
  · exact absurd g1 h1
  · exact absurd h1 g1
  · exact ⟨h3.trans g3.symm, h4.trans g4.symm⟩
  · rcases h2 with h2 | ⟨s, hs, h2⟩
    · exact absurd g2 h2
    · exact absurd (g3 s hs) h2
  · exact absurd h1 g1
  · rcases g2 with g2 | ⟨s, hs, g2⟩
    · exact absurd h2 g2
    · exact absurd (h3 s hs) g2
  · exact ⟨h4.trans g4.symm, h5.trans g5.symm⟩
theorem endsOf_len (L : List (List UInt8)) (d : List UInt8) : (endsOf L d).length = 67 := by simp [endsOf]
theorem endsOf_32 (L : List (List UInt8)) (hL : L.length = 67) (h32 : ∀ s ∈ L, s.length = 32) (d : List UInt8) : ∀ s ∈ endsOf L d, s.length = 32 := by
  intro s hs
  obtain ⟨i, hi, rfl⟩ := List.mem_map.1 hs
  have hi67 : i < L.length := by rw [hL]; exact List.mem_range.1 hi
  refine wlk_len _ _ _ _ (h32 _ ?_)
  rw [List.getD_eq_getElem?_getD, List.getElem?_eq_getElem hi67]
  exact List.getElem_mem _
set_option maxRecDepth 100000 in
set_option maxHeartbeats 4000000 in
theorem recover_any (L : List (List UInt8)) (v : Value) (d : List UInt8) (hl : d.length ≤ 9223372036854775807) (w : World) (hv : strsAt w w.heap.size v L) :
    Calls Try.prog 77 #[v, .string ⟨d.toArray⟩] w fun e w' => ∃ out n, e = .returned (.tuple #[.string ⟨(out : List UInt8).toArray⟩, .int .i64 (n : Nat)]) ∧ rcv L d out n ∧ Below w.heap.size w w' := by
  have HV := hid hv
  obtain ⟨⟨A, c, rfl, hlc, hc, hx⟩, ht⟩ := hv
  clear hx ht
  go_enter Try.func77, Try.ntmps77
  by_cases hd : d.length = 32
  · have hdI : (d.length : Int) = 32 := by omega
    have HD := hid hd
    clear hd
    by_cases h67 : L.length = 67
    · have h67I : (L.length : Int) = 67 := by omega
      have H67 := hid h67
      clear h67
      go_wp2_with fail
      obtain ⟨W1, hW1⟩ : ∃ W1, W1 = w.alloc (.cells #[.slice A L.length c] 26) := ⟨_, rfl⟩
      have hb1 : Below w.heap.size w W1 := by rw [hW1]; exact (Below.refl _ _).alloc (Nat.le_refl _) _
      have A1 : arr W1 w.heap.size 26 [.slice A L.length c] := by rw [hW1]; exact arr.new w _ [_]
      rw [← hW1]
      have V1 := hid (HV.out.keep' hb1)
      have B1 := hid hb1
      have HA1 := hid A1
      have c1 := A1.cell 0 _ rfl
      have l1 := A1.lt
      clear hW1 hb1 A1 HV
      refine (contains_any L _ W1 V1.out).mono ?_
      rintro e w2 ⟨⟨b, rfl, hk⟩, hw2⟩
      subst w2
      rcases hk with ⟨h32, rfl⟩ | ⟨h32, rfl⟩
      · have H32 := hid h32
        clear h32
        go_wp2_with fail
        refine (along_sig L H67.out H32.out _ _ d HD.out W1 V1.out HA1.out).mono ?_
        rintro e w3 ⟨v, rfl, o3, b3⟩
        have hll := endsOf_32 L H67.out H32.out d
        have B3 := hid (below_all B1.out b3)
        have O3 := hid (o3.strs fun s hs => by rw [hll s hs]; omega)
        have HLL := hid hll
        clear o3 b3 hll
        go_wp2_with fail
        refine (hash_any tPublic _ v w3 O3.out (by decide) (fparts67_le _ (endsOf_len L d) HLL.out) (fun s hs => by rw [HLL.out s hs]; omega)).mono ?_
        rintro e w4 ⟨rfl, b4⟩
        have B4 := hid (below_all B3.out b4)
        clear b4 B3 O3
        go_wp2
        refine bodyPost_ret (results_tmp2 rfl _ _ _) rfl ⟨recv L d, 0, rfl, Or.inr (Or.inr ⟨HD.out, H67.out, H32.out, rfl, rfl⟩), B4.out⟩
      · have H32 := hid h32
        clear h32
        go_wp2
        refine bodyPost_ret (results_tmp2 rfl _ _ _) rfl ⟨[], 10, rfl, Or.inr (Or.inl ⟨HD.out, Or.inr H32.out, rfl, rfl⟩), B1.out⟩
    · have h67I : ¬ (L.length : Int) = 67 := by omega
      have H67 := hid h67
      clear h67
      go_wp2
      refine bodyPost_ret (results_tmp2 rfl _ _ _) rfl ⟨[], 10, rfl, Or.inr (Or.inl ⟨HD.out, Or.inl H67.out, rfl, rfl⟩), ?_⟩
      exact (Below.refl _ _).alloc (Nat.le_refl _) _
  · have hdI : ¬ (d.length : Int) = 32 := by omega
    have HD := hid hd
    clear hd
    go_wp2
    refine bodyPost_ret (results_tmp2 rfl _ _ _) rfl ⟨[], 2, rfl, Or.inl ⟨HD.out, rfl, rfl⟩, ?_⟩
    exact (Below.refl _ _).alloc (Nat.le_refl _) _
end Go.Proofs.Ytcfohdkdppiekaa
