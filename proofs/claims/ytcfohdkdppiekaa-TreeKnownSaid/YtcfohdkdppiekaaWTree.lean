/- tree's parts: a leaf, a node over two, what is read of a tree. -/
import Derived.Test.YtcfohdkdppiekaaSpecTree3
import Derived.Test.YtcfohdkdppiekaaWHashD
import Derived.Test.YtcfohdkdppiekaaSchedIn
import Derived.Test.YtcfohdkdppiekaaWLayout
namespace Go.Proofs.Ytcfohdkdppiekaa
open Go Go.RowKit Go.Proofs
attribute [local go_sem] Oper.semAt_some
/-- a new leaf -/
def Leafs (w : World) (d : List UInt8) (e : Ending) (w' : World) : Prop := ∃ p, e = .returned (.pointer (some ⟨p, 0, none⟩)) ∧ w'.cell? ⟨p, 0, none⟩ = some (.string ⟨d.toArray⟩) ∧ Below w.heap.size w w'
/-- a new place over two -/
def Nodes (w : World) (d : List UInt8) (p q : Nat) (e : Ending) (w' : World) : Prop :=
  ∃ r, e = .returned (.pointer (some ⟨r, 0, none⟩)) ∧ w'.cell? ⟨r, 0, none⟩ = some (.string ⟨d.toArray⟩) ∧ w'.cell? ⟨r, 1, none⟩ = some (.pointer (some ⟨p, 0, none⟩)) ∧ w'.cell? ⟨r, 2, none⟩ = some (.pointer (some ⟨q, 0, none⟩)) ∧ Below w.heap.size w w'
set_option maxRecDepth 100000 in
set_option maxHeartbeats 1000000 in
theorem tleaf_any (s : List UInt8) (hs : s.length ≤ 1000000) (w : World) :
    Calls Try.prog 139 #[.string ⟨s.toArray⟩] w (Leafs w (leafd s)) := by
  go_enter Try.func139, Try.ntmps139
  go_wp2_with fail
  refine (hash_any tLeaf [s] _ _ (strsAt.lit' w [s] (by simp; omega) (by simp) 9) (by decide) (by simp [fparts, b8_len]; omega) (by simp; omega)).mono ?_
  rintro e w1 ⟨rfl, b1⟩
  have B1 : Below w.heap.size w w1 := ((Below.refl w.heap.size w).alloc (Nat.le_refl _) _).trans (b1.mono (by simp))
  have hld : hsh tLeaf [s] = leafd s := rfl
  rw [hld]
  obtain ⟨x, hx⟩ : ∃ x, x = leafd s := ⟨_, rfl⟩
  rw [← hx]
  have HB1 := hid B1
  have HX := hid hx
  clear hx hld b1 B1
  go_wp2
  go_ret
  have A := arr.new w1 186 [.string ⟨x.toArray⟩, .pointer none, .pointer none]
  rw [← HX.out]
  exact ⟨_, rfl, A.cell 0 _ rfl, HB1.out.alloc HB1.out.size _⟩
set_option maxRecDepth 100000 in
set_option maxHeartbeats 1000000 in
theorem over_any (a b : List UInt8) (ha : a.length = 32) (hb : b.length = 32) (p q : Nat) (w : World) (h1 : w.cell? ⟨p, 0, none⟩ = some (.string ⟨a.toArray⟩)) (h2 : w.cell? ⟨q, 0, none⟩ = some (.string ⟨b.toArray⟩)) :
    Calls Try.prog 138 #[.pointer (some ⟨p, 0, none⟩), .pointer (some ⟨q, 0, none⟩)] w (Nodes w (noded a b) p q) := by
  have HK : Hid (∀ X, Below w.heap.size w X → X.cell? ⟨p, 0, none⟩ = some (.string ⟨a.toArray⟩) ∧ X.cell? ⟨q, 0, none⟩ = some (.string ⟨b.toArray⟩)) := hid fun X hX => ⟨keep_cell hX h1, keep_cell hX h2⟩
  have HA := hid ha
  have HB := hid hb
  clear h1 h2 ha hb
  go_enter Try.func138, Try.ntmps138
  go_wp2_with fail
  have B0 := hid (Below.refl w.heap.size w).drew
  refine wp_region_sq (fun X => X.cell? ⟨p, 0, none⟩ = some (.string ⟨a.toArray⟩) ∧ X.cell? ⟨q, 0, none⟩ = some (.string ⟨b.toArray⟩)) [(true, 0), (true, 1), (true, 2), (true, 3), (true, 4), (true, 5), (true, 6), (true, 7), (true, 10), (true, 11), (true, 12), (false, 8), (false, 9), (true, 13), (false, 14)] 15 rfl (by kernel_rfl) (by kernel_rfl) (by kernel_rfl) (by decide) rfl (by kernel_rfl) (HK.out _ B0.out) ?_
  generalize World.drew w = w0 at B0 ⊢
  iterate 11 (refine sq_soft rfl (by kernel_rfl) (fun W hW => (by obtain ⟨hW1, hW2⟩ := hW; go_simp; try rfl)) ?_; go_frame)
  refine sq_op rfl (by kernel_rfl) ?_
  go_simp
  have B1 := hid (B0.out.alloc B0.out.size (.cells (scs [a, b]).toArray 9 (0, 0)))
  refine ⟨HK.out _ B1.out, ?_⟩
  try go_frame
  refine sq_op rfl (by kernel_rfl) ?_
  go_simp
  refine (hash_any tNode [a, b] _ _ (strsAt.lit' w0 [a, b] (by have := HA.out; have := HB.out; simp; omega) (by simp) 9) (by decide) (by have := HA.out; have := HB.out; simp [fparts, b8_len]; omega) (by have := HA.out; have := HB.out; simp; omega)).mono ?_
  rintro e w1 ⟨rfl, b1⟩
  have B2 : Hid (Below w.heap.size w w1) := hid (B1.out.trans (b1.mono (by have := B0.out.size; simp; omega)))
  refine ⟨HK.out _ B2.out, ?_⟩
  rw [show hsh tNode [a, b] = noded a b from rfl]
  obtain ⟨x, hx⟩ : ∃ x, x = noded a b := ⟨_, rfl⟩
  rw [← hx]
  have HX := hid hx
  clear hx b1 B1 B0
  try go_frame
  refine sq_soft rfl (by kernel_rfl) (fun W hW => (by obtain ⟨hW1, hW2⟩ := hW; go_simp; try rfl)) ?_; go_frame
  refine sq_op rfl (by kernel_rfl) ?_
  go_simp
  have B3 := hid (B2.out.alloc B2.out.size (.cells #[.string ⟨x.toArray⟩, .pointer (some ⟨p, 0, none⟩), .pointer (some ⟨q, 0, none⟩)] 186 (0, 0)))
  have A3 := hid (arr.new w1 186 [.string ⟨x.toArray⟩, .pointer (some ⟨p, 0, none⟩), .pointer (some ⟨q, 0, none⟩)])
  refine ⟨HK.out _ B3.out, ?_⟩
  try go_frame
  refine sched_done ?_
  go_wp2
  go_ret
  unfold Nodes
  rw [← HX.out]
  exact ⟨_, rfl, A3.out.cell 0 _ rfl, A3.out.cell 1 _ rfl, A3.out.cell 2 _ rfl, B3.out⟩
end Go.Proofs.Ytcfohdkdppiekaa
