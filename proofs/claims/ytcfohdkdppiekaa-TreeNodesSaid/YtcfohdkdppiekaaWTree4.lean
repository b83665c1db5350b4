/- A tree is built: contract of Build. -/
import Derived.Test.YtcfohdkdppiekaaWTree3
import Derived.Laws.EntriesVeiled
namespace Go.Proofs.Ytcfohdkdppiekaa
open Go Go.RowKit Go.Proofs
attribute [local go_sem] Oper.semAt_some
/-- a tree is given -/
def Built (w : World) (L : List (List UInt8)) (e : Ending) (w' : World) : Prop := ∃ g, e = .returned (.tuple #[.pointer (some ⟨g, 0, none⟩), .int .i64 0]) ∧ isTree w' g L ∧ Below w.heap.size w w'
set_option maxRecDepth 100000 in
set_option maxHeartbeats 1000000 in
theorem build_any (L : List (List UInt8)) (hL : L.length ≤ 65536) (ht : ∀ s ∈ L, s.length ≤ 1000000) (v : Value) (w : World) (hv : strsAt w w.heap.size v L) : Calls Try.prog 87 #[v] w (Built w L) := by
  have HV := hid hv
  obtain ⟨⟨A, c, rfl, hlc, hc, hx⟩, -⟩ := hv
  have HT := hid ht
  have hl0 : ¬ (65536 : Int) < (L.length : Int) := by omega
  clear hx ht
  go_enter Try.func87, Try.ntmps87
  go_wp2_with fail
  refine (depth_any L.length hL _).mono ?_
  rintro e w1 ⟨rfl, hw⟩
  subst w1
  obtain ⟨D, hD⟩ : ∃ D, D = dp L.length := ⟨_, rfl⟩
  rw [← hD]
  have hD16 : D ≤ 16 := by rw [hD]; exact dp_16 _ hL
  have HD := hid hD
  clear hD
  go_wp2_with fail
  obtain ⟨w2, hw2⟩ : ∃ w2, w2 = (w.alloc (.cells #[.slice A L.length c] 26)).alloc (.cells #[.int .i64 (D : Int)] 3) := ⟨_, rfl⟩
  have B2 : Hid (Below w.heap.size w w2) := hid (by rw [hw2]; exact ((Below.refl _ _).alloc (Nat.le_refl _) _).alloc (by simp) _)
  have E2 : Hid (arr w2 w.heap.size 26 [.slice A L.length c]) := hid (by rw [hw2]; exact (arr.new w _ [.slice A L.length c]).alloc _)
  have D2 : Hid (arr w2 (w.heap.size + 1) 3 [.int .i64 (D : Int)]) := hid (by rw [hw2]; exact arr.newAt _ _ [.int .i64 (D : Int)] _ (by simp))
  rw [show (w.alloc (.cells #[.slice A L.length c] 26)).alloc (.cells #[.int .i64 (D : Int)] 3) = w2 from hw2.symm]
  obtain ⟨db, hdb⟩ : ∃ db, db = w.heap.size + 1 := ⟨_, rfl⟩
  rw [← hdb] at D2 ⊢
  obtain ⟨eb, heb⟩ : ∃ eb, eb = w.heap.size := ⟨_, rfl⟩
  rw [← heb] at E2 ⊢
  clear hw2 hdb heb
  refine (hash_any tNone [] _ w2 (strsAt.nil _ _) (by decide) (by simp [fparts]) (by simp)).mono ?_
  rintro e w3 ⟨rfl, b3⟩
  rw [show hsh tNone [] = noned from rfl]
  have B3 := hid (below_all B2.out b3)
  have E3 := hid (E2.out.keep b3)
  have D3 := hid (D2.out.keep b3)
  obtain ⟨x, hx⟩ : ∃ x, x = noned := ⟨_, rfl⟩
  rw [← hx]
  have HX := hid hx
  clear b3 E2 D2 B2 hx
  go_wp2_with fail
  obtain ⟨np, hnp⟩ : ∃ np, np = w3.heap.size := ⟨_, rfl⟩
  rw [← hnp]
  obtain ⟨nb, hnb⟩ : ∃ nb, nb = np + 1 := ⟨_, rfl⟩
  rw [← hnb]
  obtain ⟨ab, hab⟩ : ∃ ab, ab = nb + 1 := ⟨_, rfl⟩
  rw [← hab]
  obtain ⟨F, hF⟩ : ∃ F : Value, F = .func (.func 137) #[] #[.pointer (some ⟨ab, 0, none⟩), .pointer (some ⟨db, 0, none⟩), .pointer (some ⟨eb, 0, none⟩), .pointer (some ⟨nb, 0, none⟩)] := ⟨_, rfl⟩
  obtain ⟨W, hW⟩ : ∃ W, W = ((w3.alloc (.cells #[.string ⟨x.toArray⟩, .pointer none, .pointer none] 186)).alloc (.cells #[.pointer (some ⟨np, 0, none⟩)] 183)).alloc (.cells #[F] 187) := ⟨_, rfl⟩
  have hb7 : Below w3.heap.size w3 W := by rw [hW]; exact (((Below.refl _ _).alloc (Nat.le_refl _) _).alloc (by simp) _).alloc (by simp; omega) _
  have hp7 : arr W np 186 [.string ⟨x.toArray⟩, .pointer none, .pointer none] := by rw [hW]; exact ((arr.newAt w3 _ [.string ⟨x.toArray⟩, .pointer none, .pointer none] _ hnp).alloc _).alloc _
  have hn7 : arr W nb 183 [.pointer (some ⟨np, 0, none⟩)] := by rw [hW]; exact (arr.newAt _ _ [.pointer (some ⟨np, 0, none⟩)] _ (by simp; omega)).alloc _
  have ha7 : arr W ab 187 [F] := by rw [hW]; exact arr.newAt _ _ [F] _ (by simp; omega)
  have hE7 : AtEnv W L D ab db eb nb := ⟨by rw [← hF]; exact ha7.cell 0 _ rfl, (D3.out.keep hb7).cell 0 _ rfl, ⟨_, (E3.out.keep hb7).cell 0 _ rfl, HV.out.keep' (below_all B3.out hb7)⟩, np, hn7.cell 0 _ rfl, by rw [← HX.out]; exact hp7.cell 0 _ rfl⟩
  have B7 := hid (below_all B3.out hb7)
  have E7 := hid hE7
  have S7 := hid ((E3.out.keep hb7).cell 0 _ rfl)
  rw [← hF, ← hW]
  have HK : Hid (∀ X, Below W.heap.size W X → X.cell? ⟨ab, 0, none⟩ = some F ∧ X.cell? ⟨db, 0, none⟩ = some (.int .i64 (D : Int)) ∧ X.cell? ⟨eb, 0, none⟩ = some (.slice A L.length c)) := hid fun X hX => ⟨by rw [hF]; exact (E7.out.keep hX).at_, (E7.out.keep hX).depth, keep_cell hX S7.out⟩
  have HBA : Hid (∀ X, AtEnv X L D ab db eb nb → Calls Try.prog 137 #[.int .i64 (D : Int), .int .u64 0, .pointer (some ⟨ab, 0, none⟩), .pointer (some ⟨db, 0, none⟩), .pointer (some ⟨eb, 0, none⟩), .pointer (some ⟨nb, 0, none⟩)] X (Parts X (td L D) D 0)) := hid fun X hX => bat_any L hL HT.out D ab db eb nb hD16 D 0 X (Nat.le_refl _) (Nat.two_pow_pos _) hX
  have HF := hid hF
  clear hnp hnb hab hW hb7 hp7 hn7 ha7 hE7 E3 D3 B3 HX hF
  have B8 := hid (Below.refl W.heap.size W).drew
  refine wp_region_sq (fun X => X.cell? ⟨ab, 0, none⟩ = some F ∧ X.cell? ⟨db, 0, none⟩ = some (.int .i64 (D : Int)) ∧ X.cell? ⟨eb, 0, none⟩ = some (.slice A L.length c)) [(true, 0), (true, 1), (true, 3), (true, 4), (true, 5), (false, 2), (true, 6), (false, 7), (true, 8)] 9 rfl (by kernel_rfl) (by kernel_rfl) (by kernel_rfl) (by decide) rfl (by kernel_rfl) (HK.out _ B8.out) ?_
  generalize World.drew W = W8 at B8 ⊢
  iterate 5 (refine sq_soft rfl (by kernel_rfl) (fun W hW => (by obtain ⟨hW1, hW2, hW3⟩ := hW; go_simp; try rfl)) ?_; go_frame)
  refine sq_op rfl (by kernel_rfl) ?_
  rw [HF.out]
  go_simp
  refine (HBA.out W8 (E7.out.keep B8.out)).mono ?_
  rintro e W9 ⟨p, rfl, t9, b9⟩
  have B9 := hid (below_all B8.out b9)
  have T9 := hid t9
  refine ⟨by rw [← HF.out]; exact HK.out _ B9.out, ?_⟩
  clear t9 b9
  try go_frame
  refine sq_soft rfl (by kernel_rfl) (fun W hW => (by obtain ⟨hW1, hW2, hW3⟩ := hW; go_simp; try rfl)) ?_; go_frame
  refine sq_op rfl (by kernel_rfl) ?_
  go_simp
  have hal : Below W9.heap.size W9 (W9.alloc (.cells #[.pointer (some ⟨p, 0, none⟩), .int .i64 (D : Int), .int .i64 (L.length : Int)] 191 (0, 0))) := (Below.refl _ _).alloc (Nat.le_refl _) _
  have B10 := hid (below_all B9.out hal)
  have T10 := hid (T9.out.keep hal)
  have A10 := hid (arr.new W9 191 [.pointer (some ⟨p, 0, none⟩), .int .i64 (D : Int), .int .i64 (L.length : Int)])
  refine ⟨by rw [← HF.out]; exact HK.out _ B10.out, ?_⟩
  clear hal
  try go_frame
  refine sq_soft rfl (by kernel_rfl) (fun W hW => (by obtain ⟨hW1, hW2, hW3⟩ := hW; go_simp; try rfl)) ?_; go_frame
  refine sched_done ?_
  go_wp2
  go_ret2
  refine ⟨_, rfl, ⟨p, A10.out.cell 0 _ rfl, ?_, A10.out.cell 2 _ rfl, ?_⟩, below_all B7.out B10.out⟩
  · rw [← HD.out]; exact A10.out.cell 1 _ rfl
  · rw [← HD.out]; exact T10.out
set_option maxRecDepth 100000 in
set_option maxHeartbeats 1000000 in
theorem build_long (L : List (List UInt8)) (hL : 65536 < L.length) (v : Value) (w : World) (hv : strsAt w w.heap.size v L) : Calls Try.prog 87 #[v] w fun e w' => e = .returned (.tuple #[.pointer none, .int .i64 3]) ∧ Below w.heap.size w w' := by
  obtain ⟨⟨A, c, rfl, hlc, hc, hx⟩, -⟩ := hv
  have hl0 : (65536 : Int) < (L.length : Int) := by omega
  clear hx
  go_enter Try.func87, Try.ntmps87
  go_wp2
  go_ret2
  exact ⟨rfl, (Below.refl _ _).alloc (Nat.le_refl _) _⟩
end Go.Proofs.Ytcfohdkdppiekaa
