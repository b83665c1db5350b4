/- The law DomKnown: the walk. -/
import Derived.Test.YtcfohdkdppiekaaWNumber
namespace Go.Proofs.Ytcfohdkdppiekaa
open Go.RowKit Go.Proofs
def t17 : List UInt8 := [49, 50, 51, 52, 53, 54, 55, 56, 57, 48, 49, 50, 51, 52, 53, 54, 55]
def t16 : List UInt8 := [49, 50, 51, 52, 53, 54, 55, 56, 57, 48, 49, 50, 51, 52, 53, 54]
theorem k1 : frm [97] [[98], [99, 100]] = [1, 97, 0, 0, 0, 0, 0, 0, 0, 1, 98, 0, 0, 0, 0, 0, 0, 0, 2, 99, 100] := by decide +kernel
theorem k2 : frm [] [] = [] := by decide +kernel
theorem k3 : frm t17 [] = [] := by decide +kernel
theorem k4 : frm t16 [] = [16, 49, 50, 51, 52, 53, 54, 55, 56, 57, 48, 49, 50, 51, 52, 53, 54] := by decide +kernel
theorem k5 : hsh [] [] = [] := hsh_no (by decide) _
theorem k6 : hsh t17 [[97]] = [] := hsh_no (by decide) _
theorem k7 : frm [97] [[]] = [1, 97, 0, 0, 0, 0, 0, 0, 0, 0] := by decide +kernel
theorem k8 : frm [97] [] = [1, 97] := by decide +kernel
theorem k9 : b8 0 = [0, 0, 0, 0, 0, 0, 0, 0] := by decide +kernel
theorem k10 : b8 18446744073709551615 = [255, 255, 255, 255, 255, 255, 255, 255] := by decide +kernel
set_option maxRecDepth 100000 in
set_option maxHeartbeats 4000000 in
theorem domKnown_any (w : World) : Calls Try.prog 10 #[] w fun e w' => e = .returned (.bool true) ∧ Below w.heap.size w w' := by
  go_enter Try.func10, Try.ntmps10
  go_wp2_with fail
  refine (works2_any _).mono ?_
  rintro e w1 ⟨rfl, b1⟩
  go_wp2_with fail
  refine (frame_any [97] [[98], [99, 100]] _ _ (strsAt.lit' w1 [[98], [99, 100]] (by simp) (by simp) 9) (by decide) (by simp [fparts, b8_len]) (by simp)).mono ?_
  rintro e w2 ⟨rfl, c1⟩
  have b2 : Below w.heap.size w w2 := (b1.alloc b1.size _).trans (c1.mono (by have := b1.size; simp; omega))
  clear c1 b1
  rw [k1]
  go_wp2_with fail
  refine (frame_any [] [] _ _ (strsAt.nil _ _) (by decide) (by simp [fparts]) (by simp)).mono ?_
  rintro e w3 ⟨rfl, c1⟩
  have b3 := below_all b2 c1
  clear c1 b2
  rw [k2]
  go_wp2_with fail
  refine (frame_any t17 [] _ _ (strsAt.nil _ _) (by decide) (by simp [fparts]) (by simp)).mono ?_
  rintro e w4 ⟨rfl, c1⟩
  have b4 := below_all b3 c1
  clear c1 b3
  rw [k3]
  go_wp2_with fail
  refine (frame_any t16 [] _ _ (strsAt.nil _ _) (by decide) (by simp [fparts]) (by simp)).mono ?_
  rintro e w5 ⟨rfl, c1⟩
  have b5 := below_all b4 c1
  clear c1 b4
  rw [k4]
  go_wp2_with fail
  refine (hash_any [] [] _ _ (strsAt.nil _ _) (by decide) (by simp [fparts]) (by simp)).mono ?_
  rintro e w6 ⟨rfl, c1⟩
  have b6 := below_all b5 c1
  clear c1 b5
  rw [k5]
  go_wp2_with fail
  refine (hash_any t17 [[97]] _ _ (strsAt.lit' w6 [[97]] (by simp) (by simp) 9) (by decide) (by simp [fparts, b8_len]) (by simp)).mono ?_
  rintro e w7 ⟨rfl, c1⟩
  have b7 : Below w.heap.size w w7 := (b6.alloc b6.size _).trans (c1.mono (by have := b6.size; simp; omega))
  clear c1 b6
  rw [k6]
  go_wp2_with fail
  refine (frame_any [97] [[]] _ _ (strsAt.lit' w7 [[]] (by simp) (by simp) 9) (by decide) (by simp [fparts, b8_len]) (by simp)).mono ?_
  rintro e w8 ⟨rfl, c1⟩
  have b8' : Below w.heap.size w w8 := (b7.alloc b7.size _).trans (c1.mono (by have := b7.size; simp; omega))
  clear c1 b7
  rw [k7]
  go_wp2_with fail
  refine (frame_any [97] [] _ _ (strsAt.nil _ _) (by decide) (by simp [fparts]) (by simp)).mono ?_
  rintro e w9 ⟨rfl, c1⟩
  have b9 := below_all b8' c1
  clear c1 b8'
  rw [k8]
  go_wp2_with fail
  refine (num_any 0 (by omega) (by omega) _).mono ?_
  rintro e wa ⟨rfl, ca⟩
  have ba := below_all b9 ca
  rw [show (0 : Int).toNat = 0 from rfl, k9]
  clear ca b9
  go_wp2_with fail
  refine (num_any 18446744073709551615 (by omega) (by omega) _).mono ?_
  rintro e wb ⟨rfl, cb⟩
  have bb := below_all ba cb
  rw [show (18446744073709551615 : Int).toNat = 18446744073709551615 from rfl, k10]
  clear cb ba
  go_wp2
  go_ret
  exact ⟨rfl, bb⟩
end Go.Proofs.Ytcfohdkdppiekaa
