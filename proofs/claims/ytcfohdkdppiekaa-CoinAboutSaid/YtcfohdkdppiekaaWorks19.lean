/- law19's works: contract. -/
import Derived.Test.YtcfohdkdppiekaaWCoins
import Derived.Test.YtcfohdkdppiekaaWSeed2
import Derived.Test.YtcfohdkdppiekaaShelf
namespace Go.Proofs.Ytcfohdkdppiekaa
open Go.RowKit Go.Proofs Go
theorem cvals_one (s : List UInt8) : cvals s 1 3 3 = ncs [0, 0, 0] := by
  have : ∀ i, su s (8 * i) % 1 = 0 := fun i => Nat.mod_one _
  simp [cvals, ncs, this, List.range_succ]
set_option maxRecDepth 100000 in
set_option maxHeartbeats 4000000 in
theorem works19_any (w : World) : Calls Try.prog 103 #[] w fun e w' => e = .returned (.bool true) ∧ Below w.heap.size w w' := by
  go_enter Try.func103, Try.ntmps103
  go_wp2_with fail
  refine (Try.strings_Repeat_main ⟨#[7]⟩ 32 _ (by omega) (by omega) (by decide) (by decide)).mono ?_
  rintro e w1 ⟨rfl, b1⟩
  rw [show (⟨#[7]⟩ : ByteArray).data.toList = [7] from rfl]
  obtain ⟨A, hA⟩ : ∃ A : List UInt8, A = Lib.repeatL [7] 32 := ⟨_, rfl⟩
  have hAl : A.length = 32 := by rw [hA]; decide
  rw [← hA]
  have B1 := hid b1
  clear hA b1
  go_wp2_with fail
  refine (coins_any A hAl 1 (by omega) (by omega) 3 (by omega) (fun i _ => by have := su_lt A (8 * i); unfold topOf; omega) w1).mono ?_
  rintro e w2 ⟨E, rfl, hE2, hwE, b2⟩
  rw [cvals_one] at hE2
  have B2 := hid (below_all B1.out b2)
  have A2 := hid hE2
  clear b2 B1 hE2 hwE
  go_wp2_with fail
  refine (coins_any A hAl 5 (by omega) (by omega) 0 (by omega) (fun i hi => by omega) w2).mono ?_
  rintro e w3 ⟨E3, rfl, _, _, b3⟩
  have B3 := hid (below_all B2.out b3)
  have A3 := hid (A2.out.keep b3)
  clear b3 B2 A2
  go_wp2_with fail
  refine (nums_any [0, 0, 0] E w3.heap.size 3 3 (by decide) _ (A3.out.alloc _) (arr.new w3 32 (ncs [0, 0, 0]))).mono ?_
  rintro e w4 ⟨rfl, b4⟩
  have B4 := hid (below_all (below_all B3.out ((Below.refl _ _).alloc (Nat.le_refl _) _)) b4)
  clear b4 B3 A3
  go_wp2_with fail
  refine (refused_any A 0 1 (noCoins_zero A hAl 1 (by omega)) w4).mono ?_
  rintro e w5 ⟨rfl, b5⟩
  have B5 := hid (below_all B4.out b5)
  clear b5 B4
  go_wp2_with fail
  refine (refused_any A 1 641 (noCoins_many A 1 641 (by omega)) w5).mono ?_
  rintro e w6 ⟨rfl, b6⟩
  have B6 := hid (below_all B5.out b6)
  clear b6 B5
  go_wp2_with fail
  refine (refused_any A 1 (-1) (noCoins_many A 1 (-1) (by omega)) w6).mono ?_
  rintro e w7 ⟨rfl, b7⟩
  have B7 := hid (below_all B6.out b7)
  clear b7 B6
  have hx2 : (⟨A.toArray⟩ : ByteArray).extract 1 32 = ⟨(A.drop 1).toArray⟩ := by
    have := text_drop A 1
    rwa [hAl] at this
  go_wp2_with fail
  refine (refused_any A.tail 1 1 (noCoins_seed A.tail (by rw [List.length_tail, hAl]; decide) 1 1 (by omega)) w7).mono ?_
  rintro e w8 ⟨rfl, b8⟩
  have B8 := hid (below_all B7.out b8)
  clear b8 B7 hx2
  go_wp2_with fail
  refine (cseed_any [97] [98] [99] (by decide) (by decide) (by decide) 1 2 3 (by decide) (by decide) (by decide) w8).mono ?_
  rintro e w9 ⟨rfl, b9⟩
  have B9 := hid (below_all B8.out b9)
  clear b9 B8
  obtain ⟨Y, hY⟩ : ∃ Y, Y = hsh tCoin [[97], [98], [99], b8 1, b8 2, b8 3] := ⟨_, rfl⟩
  rw [← hY]
  have HY := hid hY
  clear hY
  go_wp2_with fail
  refine (num_nat 1 (by omega) w9).mono ?_
  rintro e w10 ⟨rfl, b10⟩
  have B10 := hid (below_all B9.out b10)
  clear b10 B9
  go_wp2_with fail
  refine (num_nat 2 (by omega) w10).mono ?_
  rintro e w11 ⟨rfl, b11⟩
  have B11 := hid (below_all B10.out b11)
  clear b11 B10
  go_wp2_with fail
  refine (num_nat 3 (by omega) w11).mono ?_
  rintro e w12 ⟨rfl, b12⟩
  have B12 := hid (below_all B11.out b12)
  clear b12 B11
  go_wp2_with fail
  refine (hash_any tCoin [[97], [98], [99], b8 1, b8 2, b8 3] _ _ (strsAt.lit' w12 [[97], [98], [99], b8 1, b8 2, b8 3] (by simp [b8_len]) (by simp) 9) (by decide) (by simp [fparts, b8_len]) (by simp [b8_len])).mono ?_
  rintro e w13 ⟨rfl, b13⟩
  have B13 := hid (below_all (below_all B12.out ((Below.refl _ _).alloc (Nat.le_refl _) _)) b13)
  clear b13 B12
  rw [← HY.out]
  go_wp2
  go_ret
  exact ⟨rfl, B13.out⟩
end Go.Proofs.Ytcfohdkdppiekaa
