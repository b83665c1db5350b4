/- A tree with another element: contract of With. -/
import Derived.Test.YtcfohdkdppiekaaWTree5
namespace Go.Proofs.Ytcfohdkdppiekaa
open Go Go.RowKit Go.Proofs
attribute [local go_sem] Oper.semAt_some
theorem twith_nil (i : Int) (s : List UInt8) (w : World) : Calls Try.prog 97 #[.pointer none, .int .u64 i, .string ⟨s.toArray⟩] w fun e w' => e = .returned (.tuple #[.pointer none, .int .i64 1]) ∧ Below w.heap.size w w' := by
  go_enter Try.func97, Try.ntmps97
  go_wp2
  go_ret2
  exact ⟨rfl, (Below.refl _ _).alloc (Nat.le_refl _) _⟩
set_option maxRecDepth 100000 in
set_option maxHeartbeats 1000000 in
theorem twith_arg (g : Nat) (L : List (List UInt8)) (hL : L.length ≤ 65536) (i : Nat) (hi : L.length ≤ i) (hi2 : i < 18446744073709551616) (s : List UInt8) (w : World) (h : isTree w g L) :
    Calls Try.prog 97 #[.pointer (some ⟨g, 0, none⟩), .int .u64 (i : Int), .string ⟨s.toArray⟩] w fun e w' => e = .returned (.tuple #[.pointer none, .int .i64 2]) ∧ Below w.heap.size w w' := by
  obtain ⟨p, h1, h2, h3, h4⟩ := h
  have hg := cell_lt h1
  have hiI : (L.length : Int) ≤ (i : Int) := by omega
  have hLw : IntKind.u64.wrap (L.length : Int) = (L.length : Int) := by rw [IntKind.wrap_u64]; omega
  clear h1 h2 h4
  simp only [] at hg
  go_enter Try.func97, Try.ntmps97
  go_wp2
  go_ret2
  exact ⟨rfl, (Below.refl _ _).alloc (Nat.le_refl _) _⟩
set_option maxRecDepth 100000 in
set_option maxHeartbeats 1000000 in
theorem twith_any (g : Nat) (L : List (List UInt8)) (hL : L.length ≤ 65536) (i : Nat) (hi : i < L.length) (s : List UInt8) (hs : s.length ≤ 1000000) (w : World) (h : isTree w g L) :
    Calls Try.prog 97 #[.pointer (some ⟨g, 0, none⟩), .int .u64 (i : Int), .string ⟨s.toArray⟩] w (Built w (L.set i s)) := by
  obtain ⟨p, h1, h2, h3, h4⟩ := h
  have hg := cell_lt h1
  have hiI : ¬ (L.length : Int) ≤ (i : Int) := by omega
  have hLw : IntKind.u64.wrap (L.length : Int) = (L.length : Int) := by rw [IntKind.wrap_u64]; omega
  obtain ⟨D, hD⟩ : ∃ D, D = dp L.length := ⟨_, rfl⟩
  rw [← hD] at h2 h4
  have hD16 : D ≤ 16 := by rw [hD]; exact dp_16 _ hL
  have hLD : L.length ≤ 2 ^ D := by rw [hD]; exact dp_pos _ hL
  have T0 := hid h4
  have HD := hid hD
  have HLD := hid hLD
  have C0 := hid (And.intro h1 (And.intro h2 h3))
  obtain ⟨K, hK⟩ : ∃ K, K = rv D i := ⟨_, rfl⟩
  have HKK := hid hK
  have HIL := hid hi
  clear h4 hD hLD hi
  simp only [] at hg
  go_enter Try.func97, Try.ntmps97
  go_wp2_with fail
  refine (leaf_at i D hD16 (by have := HIL.out; have := HLD.out; omega) _).mono ?_
  rintro e w1 ⟨rfl, hw⟩
  subst w1
  rw [← hK]
  clear hK
  go_wp2_with fail
  obtain ⟨xb, hxb⟩ : ∃ xb, xb = w.heap.size := ⟨_, rfl⟩
  rw [← hxb]
  obtain ⟨kb, hkb⟩ : ∃ kb, kb = xb + 1 := ⟨_, rfl⟩
  rw [← hkb]
  obtain ⟨fb, hfb⟩ : ∃ fb, fb = kb + 1 := ⟨_, rfl⟩
  rw [← hfb]
  obtain ⟨F, hF⟩ : ∃ F : Value, F = .func (.func 143) #[] #[.pointer (some ⟨xb, 0, none⟩), .pointer (some ⟨kb, 0, none⟩), .pointer (some ⟨fb, 0, none⟩)] := ⟨_, rfl⟩
  obtain ⟨W, hW⟩ : ∃ W, W = ((w.alloc (.cells #[.string ⟨s.toArray⟩] 9)).alloc (.cells #[.int .u64 (K : Int)] 32)).alloc (.cells #[F] 196) := ⟨_, rfl⟩
  have hb7 : Below w.heap.size w W := by rw [hW]; exact (((Below.refl _ _).alloc (Nat.le_refl _) _).alloc (by simp) _).alloc (by simp; omega) _
  have hx7 : arr W xb 9 [.string ⟨s.toArray⟩] := by rw [hW]; exact ((arr.newAt w _ [.string ⟨s.toArray⟩] _ hxb).alloc _).alloc _
  have hk7 : arr W kb 32 [.int .u64 (K : Int)] := by rw [hW]; exact (arr.newAt _ _ [.int .u64 (K : Int)] _ (by simp; omega)).alloc _
  have hf7 : arr W fb 196 [F] := by rw [hW]; exact arr.newAt _ _ [F] _ (by simp; omega)
  have hE7 : WithEnv W s K xb kb fb := ⟨hx7.cell 0 _ rfl, hk7.cell 0 _ rfl, by rw [← hF]; exact hf7.cell 0 _ rfl⟩
  have B7 := hid hb7
  have E7 := hid hE7
  rw [← hF, ← hW]
  have HF := hid hF
  have HK : Hid (∀ X, Below W.heap.size W X → X.cell? ⟨fb, 0, none⟩ = some F ∧ X.cell? ⟨g, 0, none⟩ = some (.pointer (some ⟨p, 0, none⟩)) ∧ X.cell? ⟨g, 1, none⟩ = some (.int .i64 (D : Int)) ∧ X.cell? ⟨g, 2, none⟩ = some (.int .i64 (L.length : Int))) := hid fun X hX => ⟨by rw [HF.out]; exact (E7.out.keep hX).fn, keep_cell hX (keep_cell B7.out C0.out.1), keep_cell hX (keep_cell B7.out C0.out.2.1), keep_cell hX (keep_cell B7.out C0.out.2.2)⟩
  have HNW : Hid (∀ X, WithEnv X s K xb kb fb → isT X (td L D) D 0 p → Calls Try.prog 143 #[.pointer (some ⟨p, 0, none⟩), .int .i64 (D : Int), .pointer (some ⟨xb, 0, none⟩), .pointer (some ⟨kb, 0, none⟩), .pointer (some ⟨fb, 0, none⟩)] X (Parts X (td (L.set i s) D) D 0)) := hid fun X hX hT => by
    have e : K / 2 ^ D = 0 := Nat.div_eq_of_lt (by rw [HKK.out]; exact rv_lt D i)
    have := anew_any L s hs i D K xb kb fb hD16 HIL.out HLD.out HKK.out D p X (Nat.le_refl _) hX (by rw [e]; exact hT)
    rw [e] at this
    exact this
  clear hxb hkb hfb hF hW hb7 hx7 hk7 hf7 hE7 h1 h2 h3
  have B8 := hid (Below.refl W.heap.size W).drew
  refine wp_region_sq (fun X => X.cell? ⟨fb, 0, none⟩ = some F ∧ X.cell? ⟨g, 0, none⟩ = some (.pointer (some ⟨p, 0, none⟩)) ∧ X.cell? ⟨g, 1, none⟩ = some (.int .i64 (D : Int)) ∧ X.cell? ⟨g, 2, none⟩ = some (.int .i64 (L.length : Int))) [(true, 0), (true, 1), (true, 2), (true, 3), (true, 4), (true, 5), (true, 6), (true, 7), (true, 8), (true, 10), (true, 11), (true, 12), (true, 13), (true, 14), (true, 15), (true, 16), (true, 17), (false, 9), (true, 18), (false, 19), (true, 20)] 21 rfl (by kernel_rfl) (by kernel_rfl) (by kernel_rfl) (by decide) rfl (by kernel_rfl) (HK.out _ B8.out) ?_
  generalize World.drew W = W8 at B8 ⊢
  iterate 17 (refine sq_soft rfl (by kernel_rfl) (fun W hW => (by obtain ⟨hW1, hW2, hW3, hW4⟩ := hW; go_simp; try rfl)) ?_; go_frame)
  refine sq_op rfl (by kernel_rfl) ?_
  rw [HF.out]
  go_simp
  refine (HNW.out W8 (E7.out.keep B8.out) ((T0.out.keep B7.out).keep B8.out)).mono ?_
  rintro e W9 ⟨r, rfl, t9, b9⟩
  have B9 := hid (below_all B8.out b9)
  have T9 := hid t9
  refine ⟨by rw [← HF.out]; exact HK.out _ B9.out, ?_⟩
  clear t9 b9
  try go_frame
  refine sq_soft rfl (by kernel_rfl) (fun W hW => (by obtain ⟨hW1, hW2, hW3⟩ := hW; go_simp; try rfl)) ?_; go_frame
  refine sq_op rfl (by kernel_rfl) ?_
  go_simp
  have hal : Below W9.heap.size W9 (W9.alloc (.cells #[.pointer (some ⟨r, 0, none⟩), .int .i64 (D : Int), .int .i64 (L.length : Int)] 191 (0, 0))) := (Below.refl _ _).alloc (Nat.le_refl _) _
  have B10 := hid (below_all B9.out hal)
  have T10 := hid (T9.out.keep hal)
  have A10 := hid (arr.new W9 191 [.pointer (some ⟨r, 0, none⟩), .int .i64 (D : Int), .int .i64 (L.length : Int)])
  refine ⟨by rw [← HF.out]; exact HK.out _ B10.out, ?_⟩
  clear hal
  try go_frame
  refine sq_soft rfl (by kernel_rfl) (fun W hW => (by obtain ⟨hW1, hW2, hW3⟩ := hW; go_simp; try rfl)) ?_; go_frame
  refine sched_done ?_
  go_wp2
  go_ret2
  refine ⟨_, rfl, ⟨r, A10.out.cell 0 _ rfl, ?_, ?_, ?_⟩, below_all B7.out B10.out⟩
  · rw [dp_set, ← HD.out]; exact A10.out.cell 1 _ rfl
  · rw [List.length_set]; exact A10.out.cell 2 _ rfl
  · rw [dp_set, ← HD.out]; exact T10.out
end Go.Proofs.Ytcfohdkdppiekaa
