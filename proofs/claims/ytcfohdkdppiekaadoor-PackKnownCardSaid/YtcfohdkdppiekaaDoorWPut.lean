/- pack's writer: a row is tried: contracts. -/
import Derived.Test.YtcfohdkdppiekaaDoorAppB
import Derived.Test.YtcfohdkdppiekaaDoorSoft
namespace Go.Proofs.YtcfohdkdppiekaaDoor
open Go.RowKit Go.Proofs
/-- block g is a writer that has laid the bytes l -/
def isP (w : World) (B g : Nat) (l : List UInt8) : Prop := B ≤ g ∧ ∃ A n c, arr w g 52 [.slice A n c] ∧ own w B (.slice A n c) l
theorem own_ne {w : World} {B g : Nat} {v : Value} {l : List UInt8} {T : TypeId} {xs : List Value} (h : own w B v l) (ha : arr w g T xs) (hT : T ≠ 5) : v.ownBlock ≠ some g := by
  rcases h.2 with ⟨rfl, _⟩ | ⟨k, cap, cur, rfl, _, hg, _⟩
  · simp [Value.ownBlock]
  · intro e
    simp only [Value.ownBlock, Option.some.injEq] at e
    subst e
    unfold arr at ha
    rw [hg] at ha
    simp only [Option.some.injEq, Obj.cells.injEq] at ha
    exact hT ha.2.1.symm
theorem isP.keep {w w' : World} {B g : Nat} {l : List UInt8} (h : isP w B g l) (hb : Below w.heap.size w w') : isP w' B g l := by
  obtain ⟨hB, A, n, c, ha, ho⟩ := h
  exact ⟨hB, A, n, c, ha.keep hb, ho.keep hb⟩
theorem own_form {w : World} {B : Nat} {v : Value} {l : List UInt8} (h : own w B v l) : ∃ A n c, v = .slice A n c := by
  rcases h.2 with ⟨rfl, _⟩ | ⟨g, cap, cur, rfl, _⟩
  · exact ⟨_, _, _, rfl⟩
  · exact ⟨_, _, _, rfl⟩
theorem arr_after {w w1 w2 : World} {B g : Nat} {l : List UInt8} {v : Value} (ha : arr w g 52 [v]) (ho : own w B v l) (hb : Below w.heap.size w w1) (hg : w1.grownBy w2 v.ownBlock) : arr w2 g 52 [v] := by
  have ha1 := ha.keep hb
  unfold arr at *
  rw [hg.block g (Array.getElem?_eq_some_iff.1 ha1).1 (fun e => own_ne ho ha (by decide) e.symm)]; exact ha1
theorem arr_kept {w1 w2 : World} {B g : Nat} {l : List UInt8} {v : Value} {T : TypeId} {xs : List Value} (ha : arr w1 g T xs) (ho : own w1 B v l) (hg : w1.grownBy w2 v.ownBlock) (hT : T ≠ 5) : arr w2 g T xs := by
  have := own_ne ho ha hT
  unfold arr at *
  rw [hg.block g (Array.getElem?_eq_some_iff.1 ha).1 (fun e => this e.symm)]; exact ha
theorem arr_keep {w w1 w2 : World} {B g : Nat} {l : List UInt8} {v : Value} {T : TypeId} {xs : List Value} (ha : arr w g T xs) (ho : own w B v l) (hb : Below w.heap.size w w1) (hg : w1.grownBy w2 v.ownBlock) (hT : T ≠ 5) : arr w2 g T xs :=
  arr_kept (ha.keep hb) (ho.keep hb) hg hT
/-- the buffer has grown, and is stored back -/
theorem isP.put {w w1 w2 : World} {B g : Nat} {l l' : List UInt8} {v v' : Value} (hB : B ≤ g) (ha : arr w g 52 [v]) (ho : own w B v l) (hb : Below w.heap.size w w1) (hg : w1.grownBy w2 v.ownBlock) (ho' : own w2 B v' l') (hBw : B ≤ w.heap.size) :
    isP (w2.setCell ⟨g, 0, none⟩ v') B g l' ∧ Below B w (w2.setCell ⟨g, 0, none⟩ v') ∧ arr w2 g 52 [v] := by
  have ha1 := ha.keep hb
  have ha2 : arr w2 g 52 [v] := by
    unfold arr at *
    rw [hg.block g (Array.getElem?_eq_some_iff.1 ha1).1 (fun e => own_ne ho ha (by decide) e.symm)]; exact ha1
  obtain ⟨A, n, c, rfl⟩ := own_form ho'
  refine ⟨⟨hB, A, n, c, ha2.set 0 _, ?_⟩, ?_, ha2⟩
  · refine World.ownsRow.kept (row := some g) ho' ⟨rfl, rfl, rfl, by simp [World.setCell], fun k _ hk => Below.heap_setCell _ _ _ _ (fun e => hk (by simp [e]))⟩ (Or.inr (own_ne ho' ha2 (by decide)))
  · exact ((hb.mono hBw).grown hg (Nat.le_trans hBw hb.size) (fun k hk => (ho.lt k hk).1)).setCell (p := ⟨g, 0, none⟩) hB _
set_option maxRecDepth 100000 in
set_option maxHeartbeats 2000000 in
theorem put_no (below : Int) (n : Nat) (f : Int) (s : Int) (nb wb : Nat) (p : Value) (h1 : below ≤ (n : Int)) (h2 : 0 < below) (w : World) (hn : arr w nb 27 [.int .u64 (n : Int)]) (hw : arr w wb 23 [p]) :
    Calls Tryd.prog 39 #[.agg #[.int .u64 below, .int .u8 f, .int .i64 s], .pointer (some ⟨nb, 0, none⟩), .pointer (some ⟨wb, 0, none⟩)] w fun e w' => e = .returned (.bool false) ∧ Below w.heap.size w w' := by
  have cn := hn.cell 0 _ rfl
  have ln := hn.lt
  go_enter Tryd.func39, Tryd.ntmps39
  go_wp2
  go_ret
  exact ⟨rfl, (Below.refl _ _).alloc (Nat.le_refl _) _⟩
set_option maxRecDepth 100000 in
set_option maxHeartbeats 2000000 in
theorem put_one (below : Int) (n f : Nat) (nb wb g B : Nat) (l : List UInt8) (h0 : 0 ≤ below) (h1 : below = 0 ∨ (n : Int) < below) (hf : f + n < 256) (w : World) (hn : arr w nb 27 [.int .u64 (n : Int)]) (hw : arr w wb 23 [.pointer (some ⟨g, 0, none⟩)])
    (hp : isP w B g l) (hl : l.length ≤ 10000000000) (hBw : B ≤ w.heap.size) :
    Calls Tryd.prog 39 #[.agg #[.int .u64 below, .int .u8 (f : Int), .int .i64 0], .pointer (some ⟨nb, 0, none⟩), .pointer (some ⟨wb, 0, none⟩)] w fun e w' => e = .returned (.bool true) ∧ isP w' B g (l ++ [UInt8.ofNat (f + n)]) ∧ Below B w w' := by
  have cn := hn.cell 0 _ rfl
  have ln := hn.lt
  have cw := hw.cell 0 _ rfl
  have lw := hw.lt
  obtain ⟨hB, A, m, c, ha, ho⟩ := hp
  have cg := ha.cell 0 _ rfl
  have lg := ha.lt
  have HA := hid ha
  have HO := hid ho
  have hmod : ((n : Int) % 256) = (n : Int) := by omega
  have hmod2 : ((f : Int) + (n : Int)) % 256 = (f : Int) + (n : Int) := by omega
  have hn2 : (n : Int) < 256 := by omega
  have hc : (decide (below ≤ (n : Int)) && decide ((0 : Int) < below)) = false := by
    rcases h1 with h1 | h1 <;> simp <;> omega
  have hh := h1
  clear ha ho h1
  obtain ⟨X, hX⟩ : ∃ X : Nat, IntKind.u8.wrap ((f : Int) + IntKind.u8.wrap (n : Int)) = (X : Int) := ⟨f + n, by rw [IntKind.wrap_u8, IntKind.wrap_u8]; omega⟩
  have hX2 : X = f + n := by
    have h := hX
    rw [IntKind.wrap_u8, IntKind.wrap_u8] at h; omega
  have HX2 := hid hX2
  clear hX2 hmod hmod2 hn2
  obtain ⟨W1, hW1⟩ : ∃ W1, W1 = ((w.alloc (.cells #[.int .u64 below, .int .u8 (f : Int), .int .i64 0] 71)).alloc (.cells #[.int .u8 (X : Int)] 5)).drew := ⟨_, rfl⟩
  have b1 : Below w.heap.size w W1 := by rw [hW1]; exact (((Below.refl _ _).alloc (Nat.le_refl _) _).alloc (by simp) _).drew
  have HO1 := hid (HO.out.keep b1)
  have hx1 : W1.heap.size = w.heap.size + 2 := by rw [hW1]; simp
  have hcx : W1.cell? ⟨w.heap.size + 1, 0, none⟩ = some (.int .u8 (X : Int)) := by
    rw [hW1]
    exact (arr.newAt _ 5 [.int .u8 (X : Int)] (w.heap.size + 1) (by simp)).cell 0 _ rfl
  have HB1 := hid b1
  have HW1 := hid hW1
  have HCX := hid hcx
  have HX1 := hid hx1
  have HR1 := hid (show arr W1 w.heap.size 71 [.int .u64 below, .int .u8 (f : Int), .int .i64 0] from by rw [hW1]; exact (arr.new w 71 [.int .u64 below, .int .u8 (f : Int), .int .i64 0]).alloc _)
  have hXb : X < 256 := by have := HX2.out; omega
  clear b1 hcx hx1 hW1
  by_cases hb0 : below = 0
  · subst hb0
    go_enter Tryd.func39, Tryd.ntmps39
    go_wp2
    refine wp_region_soft (fun w' => w'.cell? ⟨wb, 0, none⟩ = some (.pointer (some ⟨g, 0, none⟩)) ∧ w'.cell? ⟨g, 0, none⟩ = some (.slice A m c) ∧ w'.cell? ⟨nb, 0, none⟩ = some (.int .u64 (n : Int)) ∧ w'.cell? ⟨w.heap.size, 1, none⟩ = some (.int .u8 (f : Int))) [0, 1, 2, 3, 4, 5, 6, 7, 8, 9] [10, 11, 12, 13, 14] 14 (by kernel_rfl) (by kernel_rfl) (by kernel_rfl) rfl rfl (by kernel_rfl) (fun o _ _ _ _ h => by cases o <;> exact h) ?_ ?_
    · go_simp
    refine softs_step rfl rfl (v := .pointer (some ⟨g, 0, none⟩)) (fun W hW => ?_) ?_
    · obtain ⟨s1, s2, s3, s4⟩ := hW
      go_simp
    refine softs_step rfl rfl (v := .pointer (some ⟨g, 0, none⟩)) (fun W hW => ?_) ?_
    · obtain ⟨s1, s2, s3, s4⟩ := hW
      go_simp
    refine softs_step rfl rfl (v := .pointer (some ⟨g, 0, none⟩)) (fun W hW => ?_) ?_
    · obtain ⟨s1, s2, s3, s4⟩ := hW
      go_simp
    refine softs_step rfl rfl (v := .pointer (some ⟨g, 0, none⟩)) (fun W hW => ?_) ?_
    · obtain ⟨s1, s2, s3, s4⟩ := hW
      go_simp
    refine softs_step rfl rfl (v := .slice A m c) (fun W hW => ?_) ?_
    · obtain ⟨s1, s2, s3, s4⟩ := hW
      go_simp
    refine softs_step rfl rfl (v := .pointer (some ⟨w.heap.size, 1, none⟩)) (fun W hW => ?_) ?_
    · obtain ⟨s1, s2, s3, s4⟩ := hW
      go_simp
    refine softs_step rfl rfl (v := .int .u8 (f : Int)) (fun W hW => ?_) ?_
    · obtain ⟨s1, s2, s3, s4⟩ := hW
      go_simp
    refine softs_step rfl rfl (v := .int .u64 (n : Int)) (fun W hW => ?_) ?_
    · obtain ⟨s1, s2, s3, s4⟩ := hW
      go_simp
    refine softs_step rfl rfl (v := .int .u8 (IntKind.u8.wrap (n : Int))) (fun W hW => ?_) ?_
    · obtain ⟨s1, s2, s3, s4⟩ := hW
      go_simp
    refine softs_step rfl rfl (v := .int .u8 (X : Int)) (fun W hW => ?_) ?_
    · obtain ⟨s1, s2, s3, s4⟩ := hW
      go_simp
    refine softs_done ?_
    refine effs_op rfl rfl ?_
    go_simp
    rw [← HW1.out]
    refine effs_op rfl rfl (wp_appendB (.tmp 22) (.tmp 28) rfl B (.slice A m c) l [UInt8.ofNat X] rfl HO1.out (w.heap.size + 1) 0 1 rfl ?_ ?_ ?_ ?_)
    · intro j hj
      obtain rfl : j = 0 := (by simpa using hj)
      exact HCX.out.trans (by simp; omega)
    · simp; omega
    · rw [HX1.out]; omega
    intro v7 w7 ho7 hg7
    obtain ⟨A7, n7, k7, rfl⟩ := own_form ho7
    obtain ⟨hp8, hb8, a7⟩ := isP.put hB HA.out HO.out HB1.out hg7 ho7 hBw
    have c7 := a7.cell 0 _ rfl
    have f7 := a7.free 0
    have q7 := (arr_keep hw HO.out HB1.out hg7 (by decide)).cell 0 _ rfl
    have n7' := (arr_keep hn HO.out HB1.out hg7 (by decide)).cell 0 _ rfl
    have r7 := (arr_kept HR1.out (HO.out.keep HB1.out) hg7 (by decide)).cell 1 _ rfl
    have HP8 := hid hp8
    have HB8 := hid hb8
    clear hp8 hb8 a7 ho7 hg7
    refine ⟨⟨q7, c7, n7', r7⟩, ?_⟩
    refine effs_op rfl rfl ?_
    go_simp
    refine effs_op rfl rfl ?_
    go_simp
    refine effs_last rfl rfl ?_
    go_simp
    go_wp2
    go_ret
    exact ⟨rfl, (by rw [← HX2.out]; exact HP8.out), HB8.out⟩
  · have hb2 : ¬ below ≤ (n : Int) := hh.resolve_left hb0 |> Int.not_le.2
    go_enter Tryd.func39, Tryd.ntmps39
    go_wp2
    refine wp_region_soft (fun w' => w'.cell? ⟨wb, 0, none⟩ = some (.pointer (some ⟨g, 0, none⟩)) ∧ w'.cell? ⟨g, 0, none⟩ = some (.slice A m c) ∧ w'.cell? ⟨nb, 0, none⟩ = some (.int .u64 (n : Int)) ∧ w'.cell? ⟨w.heap.size, 1, none⟩ = some (.int .u8 (f : Int))) [0, 1, 2, 3, 4, 5, 6, 7, 8, 9] [10, 11, 12, 13, 14] 14 (by kernel_rfl) (by kernel_rfl) (by kernel_rfl) rfl rfl (by kernel_rfl) (fun o _ _ _ _ h => by cases o <;> exact h) ?_ ?_
    · go_simp
    refine softs_step rfl rfl (v := .pointer (some ⟨g, 0, none⟩)) (fun W hW => ?_) ?_
    · obtain ⟨s1, s2, s3, s4⟩ := hW
      go_simp
    refine softs_step rfl rfl (v := .pointer (some ⟨g, 0, none⟩)) (fun W hW => ?_) ?_
    · obtain ⟨s1, s2, s3, s4⟩ := hW
      go_simp
    refine softs_step rfl rfl (v := .pointer (some ⟨g, 0, none⟩)) (fun W hW => ?_) ?_
    · obtain ⟨s1, s2, s3, s4⟩ := hW
      go_simp
    refine softs_step rfl rfl (v := .pointer (some ⟨g, 0, none⟩)) (fun W hW => ?_) ?_
    · obtain ⟨s1, s2, s3, s4⟩ := hW
      go_simp
    refine softs_step rfl rfl (v := .slice A m c) (fun W hW => ?_) ?_
    · obtain ⟨s1, s2, s3, s4⟩ := hW
      go_simp
    refine softs_step rfl rfl (v := .pointer (some ⟨w.heap.size, 1, none⟩)) (fun W hW => ?_) ?_
    · obtain ⟨s1, s2, s3, s4⟩ := hW
      go_simp
    refine softs_step rfl rfl (v := .int .u8 (f : Int)) (fun W hW => ?_) ?_
    · obtain ⟨s1, s2, s3, s4⟩ := hW
      go_simp
    refine softs_step rfl rfl (v := .int .u64 (n : Int)) (fun W hW => ?_) ?_
    · obtain ⟨s1, s2, s3, s4⟩ := hW
      go_simp
    refine softs_step rfl rfl (v := .int .u8 (IntKind.u8.wrap (n : Int))) (fun W hW => ?_) ?_
    · obtain ⟨s1, s2, s3, s4⟩ := hW
      go_simp
    refine softs_step rfl rfl (v := .int .u8 (X : Int)) (fun W hW => ?_) ?_
    · obtain ⟨s1, s2, s3, s4⟩ := hW
      go_simp
    refine softs_done ?_
    refine effs_op rfl rfl ?_
    go_simp
    rw [← HW1.out]
    refine effs_op rfl rfl (wp_appendB (.tmp 22) (.tmp 28) rfl B (.slice A m c) l [UInt8.ofNat X] rfl HO1.out (w.heap.size + 1) 0 1 rfl ?_ ?_ ?_ ?_)
    · intro j hj
      obtain rfl : j = 0 := (by simpa using hj)
      exact HCX.out.trans (by simp; omega)
    · simp; omega
    · rw [HX1.out]; omega
    intro v7 w7 ho7 hg7
    obtain ⟨A7, n7, k7, rfl⟩ := own_form ho7
    obtain ⟨hp8, hb8, a7⟩ := isP.put hB HA.out HO.out HB1.out hg7 ho7 hBw
    have c7 := a7.cell 0 _ rfl
    have f7 := a7.free 0
    have q7 := (arr_keep hw HO.out HB1.out hg7 (by decide)).cell 0 _ rfl
    have n7' := (arr_keep hn HO.out HB1.out hg7 (by decide)).cell 0 _ rfl
    have r7 := (arr_kept HR1.out (HO.out.keep HB1.out) hg7 (by decide)).cell 1 _ rfl
    have HP8 := hid hp8
    have HB8 := hid hb8
    clear hp8 hb8 a7 ho7 hg7
    refine ⟨⟨q7, c7, n7', r7⟩, ?_⟩
    refine effs_op rfl rfl ?_
    go_simp
    refine effs_op rfl rfl ?_
    go_simp
    refine effs_last rfl rfl ?_
    go_simp
    go_wp2
    go_ret
    exact ⟨rfl, (by rw [← HX2.out]; exact HP8.out), HB8.out⟩
end Go.Proofs.YtcfohdkdppiekaaDoor
