/- law13's small parts. -/
import Derived.Test.YtcfohdkdppiekaaWRefWots
import Derived.Test.YtcfohdkdppiekaaZeros
import Derived.Test.YtcfohdkdppiekaaOpenAbt
namespace Go.Proofs.Ytcfohdkdppiekaa
open Go Go.RowKit Go.Proofs Go.ChangeShapes Go.WideShapes Go.Deep Go.Joins
attribute [local go_sem] Oper.semAt_some
structure txtAt (W : World) (b : Nat) (L : List (List UInt8)) (c : Nat) : Prop where
  lt : b < W.heap.size
  cap : L.length ≤ c
  big : c ≤ 9223372036854775807
  cells : ∀ i, i < L.length → W.cell? ⟨b, i, none⟩ = some (.string ⟨(L.getD i []).toArray⟩)
  free : ∀ i, W.frozen? ⟨b, i, none⟩ = false
section
variable {W W' : World} {b c : Nat} {L : List (List UInt8)}
theorem txtAt.keep (h : txtAt W b L c) (hb : Below W.heap.size W W') : txtAt W' b L c :=
  ⟨Nat.lt_of_lt_of_le h.lt hb.size, h.cap, h.big, fun i hi => (hb.cell (p := ⟨b, i, none⟩) h.lt).trans (h.cells i hi), fun i => (hb.frozen (p := ⟨b, i, none⟩) h.lt).trans (h.free i)⟩
theorem txtAt.grown {r : Option Nat} (h : txtAt W b L c) (hg : W.grownBy W' r) (hne : some b ≠ r) : txtAt W' b L c :=
  ⟨Nat.lt_of_lt_of_le h.lt hg.size, h.cap, h.big, fun i hi => (World.cell?_of_block (w := W) (a := ⟨b, i, none⟩) (hg.block b h.lt hne)).trans (h.cells i hi), fun i => (World.frozen?_of_block (w := W) (a := ⟨b, i, none⟩) (hg.block b h.lt hne)).trans (h.free i)⟩
theorem txtAt.strs (h : txtAt W b L c) (ht : ∀ s ∈ L, s.length ≤ 9223372036854775807) : strsAt W W.heap.size (.slice (some ⟨b, 0, none⟩) L.length c) L := by
  refine ⟨⟨some ⟨b, 0, none⟩, c, rfl, h.cap, h.big, fun i hi => ⟨_, rfl, h.lt, ?_⟩⟩, ht⟩
  have e : (⟨b, 0, none⟩ : Addr).add i = ⟨b, i, none⟩ := by unfold Addr.add; split <;> simp_all
  rw [e]; exact h.cells i hi
theorem txtAt.take (h : txtAt W b L c) (k : Nat) : txtAt W b (L.take k) c := by
  refine ⟨h.lt, Nat.le_trans (by simp; omega) h.cap, h.big, fun i hi => ?_, h.free⟩
  have hi' : i < L.length := by simp at hi; omega
  have hik : i < k := by simp at hi; omega
  rw [h.cells i hi', List.getD_eq_getElem?_getD, List.getD_eq_getElem?_getD, List.getElem?_take_of_lt hik]
theorem txtAt.set (h : txtAt W b L c) (k : Nat) (hk : k < L.length) (s : List UInt8) : txtAt (W.setCell ⟨b, k, none⟩ (.string ⟨s.toArray⟩)) b (L.set k s) c := by
  refine ⟨by simp [World.setCell]; exact h.lt, by rw [List.length_set]; exact h.cap, h.big, fun i hi => ?_, fun i => ?_⟩
  · rw [List.length_set] at hi
    by_cases e : i = k
    · subst e
      rw [World.cell?_setCell_same W _ _ (h.cells i hi), List.getD_eq_getElem?_getD, List.getElem?_set_self hi]; rfl
    · rw [World.cell?_setCell_other W _ _ _ (by intro q; exact e (by injection q with q1 q2; exact q2.symm)), h.cells i hi, List.getD_eq_getElem?_getD, List.getD_eq_getElem?_getD, List.getElem?_set_ne (fun q => e q.symm)]
  · go_simp
    exact h.free i
theorem txtAt.other (h : txtAt W b L c) (a : Addr) (ha : a.block ≠ b) (v : Value) : txtAt (W.setCell a v) b L c := by
  refine ⟨by simp [World.setCell]; exact h.lt, h.cap, h.big, fun i hi => ?_, fun i => ?_⟩
  · rw [World.cell?_setCell_other W _ _ _ (by rintro rfl; exact ha rfl)]; exact h.cells i hi
  · go_simp
    exact h.free i
theorem ownS_txt {base : Nat} {v : Value} (h : ownS W base v L) (hl : 0 < L.length) : ∃ b c, v = .slice (some ⟨b, 0, none⟩) L.length c ∧ base ≤ b ∧ txtAt W b L c := by
  rcases h.2 with ⟨rfl, hn⟩ | ⟨g, cap, cur, rfl, hgb, hg, hc, hmx, hcs, htk⟩
  · omega
  · refine ⟨g, cap, rfl, hgb, (Array.getElem?_eq_some_iff.1 hg).1, hc, hmx, fun i hi => ?_, fun i => ?_⟩
    · rw [cell_of_row W g i cur _ _ hg, ← scs_get L i hi, ← htk, Nat.mul_one, List.getElem?_take_of_lt hi]
      simp
    · simp [World.frozen?, hg]
end
/-- a key, opened -/
theorem key_cells : Try.prog.cellsOf 87 = 2 := by kernel_rfl
set_option maxRecDepth 100000 in
theorem open_key {H : Type} {enc : TypeId × Value → H} {w : World} {base : Nat} {spare : Nat → Bool} {held : Bool} {b0 : Nat} {r : Reach} {v : Value} {d : DataW H} {ps : List MemPlace} (hv : Value.okWide Try.prog w r b0 87 v) (h : DataW.Trod enc Try.prog w base spare held 87 v d ps) (_ : ∀ x ∈ ps, x.block < w.heap.size) :
    ∃ t : List UInt8 × Nat, t.1.length ≤ 9223372036854775807 ∧ t.2 < 18446744073709551616 ∧ v = .agg (keyV t.1 t.2).toArray := by
  obtain ⟨cs, rfl, hsz⟩ := okWide_struct Try.underlying87 hv
  rw [key_cells] at hsz
  obtain ⟨fuel, hT⟩ := h
  obtain ⟨ys, n', _, hy, _, hyl, hf⟩ := DataW.trod_struct Try.underlying87 hT
  obtain ⟨l⟩ := cs
  match l, hsz, ys, hyl, hf with
  | [k0, k1], _, [z0, z1], _, hf =>
    have f0 : DataW.trod enc Try.prog w base spare held n' 9 (([k0, k1].drop 0).take (Try.prog.cellsOf 9)) = some z0 := hf 0 _ rfl
    have f1 : DataW.trod enc Try.prog w base spare held n' 32 (([k0, k1].drop 1).take (Try.prog.cellsOf 32)) = some z1 := hf 1 _ rfl
    rw [abt_cellsS] at f0
    rw [abt_cellsU] at f1
    obtain ⟨a, ha, rfl⟩ := str_of f0
    obtain ⟨x, hx, rfl⟩ := u64_of f1
    exact ⟨(a, x), ha, hx, rfl⟩
theorem other_cells : Try.prog.cellsOf 100 = 2 := by kernel_rfl
theorem abt_cells8 : Try.prog.cellsOf 5 = 1 := by kernel_rfl
theorem u8_of {H : Type} {enc : TypeId × Value → H} {w : World} {base : Nat} {spare : Nat → Bool} {held : Bool} {n' : Nat} {c : Value} {z : DataW H × List MemPlace} (f : DataW.trod enc Try.prog w base spare held n' 5 [c] = some z) : ∃ n : Nat, n < 256 ∧ c = .int .u8 (n : Int) := by
  obtain ⟨n, q, x, wf⟩ := DataW.trod_int Try.underlying5 f
  have b := bounds_u8 wf
  simp at q
  exact ⟨n.toNat, by omega, by rw [q, Int.toNat_of_nonneg b.1]⟩
def otherV (c : Nat) (s : List UInt8) : List Value := [.int .u8 (c : Int), .string ⟨s.toArray⟩]
set_option maxRecDepth 100000 in
theorem open_other {H : Type} {enc : TypeId × Value → H} {w : World} {base : Nat} {spare : Nat → Bool} {held : Bool} {b0 : Nat} {r : Reach} {v : Value} {d : DataW H} {ps : List MemPlace} (hv : Value.okWide Try.prog w r b0 100 v) (h : DataW.Trod enc Try.prog w base spare held 100 v d ps) (_ : ∀ x ∈ ps, x.block < w.heap.size) :
    ∃ t : Nat × List UInt8, t.1 < 256 ∧ t.2.length ≤ 9223372036854775807 ∧ v = .agg (otherV t.1 t.2).toArray := by
  obtain ⟨cs, rfl, hsz⟩ := okWide_struct Try.underlying100 hv
  rw [other_cells] at hsz
  obtain ⟨fuel, hT⟩ := h
  obtain ⟨ys, n', _, hy, _, hyl, hf⟩ := DataW.trod_struct Try.underlying100 hT
  obtain ⟨l⟩ := cs
  match l, hsz, ys, hyl, hf with
  | [k0, k1], _, [z0, z1], _, hf =>
    have f0 : DataW.trod enc Try.prog w base spare held n' 5 (([k0, k1].drop 0).take (Try.prog.cellsOf 5)) = some z0 := hf 0 _ rfl
    have f1 : DataW.trod enc Try.prog w base spare held n' 9 (([k0, k1].drop 1).take (Try.prog.cellsOf 9)) = some z1 := hf 1 _ rfl
    rw [abt_cells8] at f0
    rw [abt_cellsS] at f1
    obtain ⟨x, hx, rfl⟩ := u8_of f0
    obtain ⟨a, ha, rfl⟩ := str_of f1
    exact ⟨(x, a), hx, ha, rfl⟩
set_option maxRecDepth 100000 in
set_option maxHeartbeats 2000000 in
theorem kcut_any (s : List UInt8) (hl : s.length ≤ 9223372036854775807) (index : Nat) (w : World) :
    Calls Try.prog 79 #[.agg (keyV s index).toArray] w fun e w' => e = .returned (.agg (keyV (s.take 100) index).toArray) ∧ Below w.heap.size w w' := by
  obtain ⟨q, hq, hqb, hqc⟩ : ∃ q : Nat, min (s.length : Int) 100 = (q : Int) ∧ (q = 100 ∨ (q = s.length ∧ s.length ≤ 100)) ∧ q ≤ s.length := by
    by_cases h3 : s.length ≤ 100
    · exact ⟨s.length, by omega, Or.inr ⟨rfl, h3⟩, Nat.le_refl _⟩
    · exact ⟨100, by omega, Or.inl rfl, by omega⟩
  have hqa : (if (100 : Int) < (s.length : Int) then (100 : Int) else (s.length : Int)) = (q : Int) := by
    rw [← hq]
    split <;> omega
  have HqB := hid hqb
  clear hqb
  have hcut := cut_text s 100 q HqB.out
  unfold keyV
  go_enter Try.func79, Try.ntmps79
  go_wp2_with fail
  refine bodyPost_ret (arr.results rfl _ _ (w.heap.size + 1) _ (keyV (s.take 100) index) _ rfl (arr.newAt (w.alloc _) _ _ _ (by simp)) Try.underlying87 rfl (by kernel_rfl)) rfl ⟨rfl, ((Below.refl _ _).alloc (Nat.le_refl _) _).alloc (by simp) _⟩
/-- a text made 32 bytes long -/
def padz (s : List UInt8) : List UInt8 := s.take 32 ++ List.replicate (32 - min s.length 32) 0
theorem padz_len (s : List UInt8) : (padz s).length = 32 := by simp [padz]; omega
set_option maxRecDepth 100000 in
set_option maxHeartbeats 2000000 in
theorem dgst_any (s : List UInt8) (hl : s.length ≤ 9223372036854775807) (w : World) :
    Calls Try.prog 80 #[.string ⟨s.toArray⟩] w fun e w' => e = .returned (.string ⟨(padz s).toArray⟩) ∧ Below w.heap.size w w' := by
  obtain ⟨q, hq, hqb, hqc⟩ : ∃ q : Nat, min (s.length : Int) 32 = (q : Int) ∧ (q = 32 ∨ (q = s.length ∧ s.length ≤ 32)) ∧ q ≤ s.length := by
    by_cases h3 : s.length ≤ 32
    · exact ⟨s.length, by omega, Or.inr ⟨rfl, h3⟩, Nat.le_refl _⟩
    · exact ⟨32, by omega, Or.inl rfl, by omega⟩
  have hqa : (if (32 : Int) < (s.length : Int) then (32 : Int) else (s.length : Int)) = (q : Int) := by
    rw [← hq]
    split <;> omega
  have HqB := hid hqb
  clear hqb
  have hcut := cut_text s 32 q HqB.out
  obtain ⟨p, hp⟩ : ∃ p, p = s.take 32 := ⟨_, rfl⟩
  have hpl : p.length = q := by have := HqB.out; rw [hp, List.length_take]; omega
  rw [← hp] at hcut
  have hpad : padz s = p ++ List.replicate (32 - q) 0 := by unfold padz; rw [← hp, ← hpl, hp, List.length_take, Nat.min_comm]
  rw [hpad]
  obtain ⟨m, hm⟩ : ∃ m : Nat, m = 32 - q := ⟨_, rfl⟩
  rw [← hm]
  have hmI : 32 - (p.length : Int) = (m : Int) := by have := HqB.out; omega
  have hm32 : m ≤ 32 := by omega
  have hsum : ¬ 9223372036854775807 < p.length + m := by have := HqB.out; omega
  have hplI : p.length ≤ 32 := by have := HqB.out; omega
  have HM := hid hm
  have HPL := hid hpl
  clear hm hp hpad hpl
  go_enter Try.func80, Try.ntmps80
  go_wp2_with (first | (refine wpList_zerosA rfl _ _ rfl m rfl rfl (by omega) ?_; intro w1 hA hb1 hlt1; have HA := hid hA; have HB := hid hb1; have HL := hid hlt1; clear hA hb1 hlt1) | (refine wpList_b2s rfl _ rfl w.heap.size 0 m m (List.replicate m 0) rfl (by simp) (arr_cells HA.out 0) ?_))
  go_ret
  exact ⟨by rw [← str_app]; simp, HB.out⟩
end Go.Proofs.Ytcfohdkdppiekaa
namespace Go.Proofs.Ytcfohdkdppiekaa
open Go Go.RowKit Go.Proofs
attribute [local go_sem] Oper.semAt_some
set_option maxRecDepth 100000 in
set_option maxHeartbeats 4000000 in
theorem same_any (L : List (List UInt8)) (v1 v2 : Value) (w : World) (h1 : strsAt w w.heap.size v1 L) (h2 : strsAt w w.heap.size v2 L) :
    Calls Try.prog 75 #[v1, v2] w fun e w' => e = .returned (.bool true) ∧ Below w.heap.size w w' := by
  obtain ⟨⟨A, c, rfl, hlc, hc, hx⟩, ht⟩ := h1
  obtain ⟨⟨A2, c2, rfl, hlc2, hc2, hx2⟩, -⟩ := h2
  have HX := hid hx
  have HX2 := hid hx2
  clear hx hx2 ht
  go_enter Try.func75, Try.ntmps75
  go_wp2
  go_loopw [5] (fun i wr => ∃ k : Nat, k ≤ L.length ∧ i = .int .i64 k ∧ Below w.heap.size w wr) (fun i _ => L.length - (intOf i).toNat)
  case atStart => exact ⟨0, by omega, rfl, Below.refl _ _⟩
  case round =>
    obtain ⟨k, hk, rfl, hbel⟩ := hrel
    by_cases hlt : k < L.length
    · obtain ⟨a, rfl, hab, hcell⟩ := HX.out k hlt
      obtain ⟨a2, rfl, hab2, hcell2⟩ := HX2.out k hlt
      have hlt' : (k : Int) < (L.length : Int) := by omega
      rw [← hbel.cell (by rw [block_add]; exact hab)] at hcell
      rw [← hbel.cell (by rw [block_add]; exact hab2)] at hcell2
      have hak : (a.add k).block < wr.heap.size := by rw [block_add]; have := hbel.size; omega
      have hak2 : (a2.add k).block < wr.heap.size := by rw [block_add]; have := hbel.size; omega
      have HB := hid hbel
      obtain ⟨s, hs⟩ : ∃ s, s = L.getD k [] := ⟨_, rfl⟩
      rw [← hs] at hcell hcell2
      clear hs hbel
      go_wp2_with fail
      refine wp_region_sq (fun W' => W' = wr.drew) [(true, 0), (true, 1), (true, 2), (true, 3), (true, 4), (true, 5), (true, 6), (true, 7)] 8 rfl (by kernel_rfl) (by kernel_rfl) (by kernel_rfl) (by decide) rfl (by kernel_rfl) rfl ?_
      refine sq_soft rfl (by kernel_rfl) (fun W hW => (by subst hW; go_simp; try rfl)) ?_; go_frame
      refine sq_soft rfl (by kernel_rfl) (fun W hW => (by subst hW; go_simp; try rfl)) ?_; go_frame
      refine sq_soft rfl (by kernel_rfl) (fun W hW => (by subst hW; go_simp; try rfl)) ?_; go_frame
      refine sq_soft rfl (by kernel_rfl) (fun W hW => (by subst hW; go_simp; try rfl)) ?_; go_frame
      refine sq_soft rfl (by kernel_rfl) (fun W hW => (by subst hW; go_simp; try rfl)) ?_; go_frame
      refine sq_soft rfl (by kernel_rfl) (fun W hW => (by subst hW; go_simp; try rfl)) ?_; go_frame
      refine sq_soft rfl (by kernel_rfl) (fun W hW => (by subst hW; go_simp; try rfl)) ?_; go_frame
      refine sq_soft rfl (by kernel_rfl) (fun W hW => (by subst hW; go_simp; try rfl)) ?_; go_frame
      refine sched_done ?_
      go_wp2
      go_roundw
      case rel => exact ⟨k + 1, by omega, by go_num, HB.out.drew⟩
      case measure => simp [intOf]; omega
    · obtain rfl : k = L.length := by omega
      have HB := hid hbel
      clear hbel
      go_wp2
      go_ret
      exact ⟨rfl, HB.out⟩
end Go.Proofs.Ytcfohdkdppiekaa
