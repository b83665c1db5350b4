/- The law CoinKnown: the walk. -/
import Derived.Test.YtcfohdkdppiekaaWorks19
import Derived.Test.YtcfohdkdppiekaaCoinNums
namespace Go.Proofs.Ytcfohdkdppiekaa
open Go.RowKit Go.Proofs Go
theorem rep_s : Lib.repeatL [115] 32 = cSeed := by decide
set_option maxRecDepth 100000 in
set_option maxHeartbeats 4000000 in
theorem coinKnown_any (w : World) : Calls Try.prog 29 #[] w fun e w' => e = .returned (.bool true) ∧ Below w.heap.size w w' := by
  go_enter Try.func29, Try.ntmps29
  go_wp2_with fail
  refine (Try.strings_Repeat_main ⟨#[115]⟩ 32 _ (by omega) (by omega) (by decide) (by decide)).mono ?_
  rintro e w1 ⟨rfl, b1⟩
  rw [show (⟨#[115]⟩ : ByteArray).data.toList = [115] from rfl, rep_s]
  obtain ⟨A, hA⟩ : ∃ A : List UInt8, A = cSeed := ⟨_, rfl⟩
  have hAl : A.length = 32 := by rw [hA]; decide
  have hne : ∀ i, i < 640 → su A (8 * i) < 18446744073709551615 := fun i hi => by
    have h1 := su_lt A (8 * i)
    have h2 := su_ne i hi
    rw [← hA] at h2
    omega
  have HNE := hid hne
  rw [← hA]
  have B1 := hid b1
  clear hA b1 hne
  go_wp2_with fail
  refine (coins_any A hAl 18446744073709551615 (by omega) (by omega) 640 (by omega) (fun i hi => by have := HNE.out i hi; unfold topOf; omega) w1).mono ?_
  rintro e w2 ⟨E, rfl, hE2, hwE, b2⟩
  have B2 := hid (below_all B1.out b2)
  have A2 := hid hE2
  clear b2 B1 hE2 hwE
  go_wp2_with fail
  refine (coins_any A hAl 9223372036854775808 (by omega) (by omega) 640 (by omega) (fun i hi => by have := su_lt A (8 * i); unfold topOf; omega) w2).mono ?_
  rintro e w3 ⟨F, rfl, hF3, hwF, b3⟩
  have B3 := hid (below_all B2.out b3)
  have A3 := hid (A2.out.keep b3)
  have F3 := hid hF3
  clear b3 B2 A2 hF3 hwF
  go_wp2_with fail
  go_loopw [6] (fun i wr => ∃ k : Nat, k ≤ 640 ∧ i = .int .i64 k ∧ Below w3.heap.size w3 wr) (fun i _ => 640 - (intOf i).toNat)
  case atStart => exact ⟨0, by omega, rfl, Below.refl _ _⟩
  case round =>
    obtain ⟨k, hk, rfl, bw⟩ := hrel
    have BW := hid bw
    have hE := A3.out.keep bw
    have hF := F3.out.keep bw
    clear bw
    by_cases hlt : k < 640
    · have hlt' : (k : Int) < 640 := by omega
      have ca := hE.cell k _ (cvals_get _ _ _ k hlt)
      have cb := hF.cell k _ (cvals_get _ _ _ k hlt)
      have la := hE.lt
      have lb := hF.lt
      rw [Nat.mod_eq_of_lt (HNE.out k hlt)] at ca
      obtain ⟨x, hx⟩ : ∃ x : Nat, x = su A (8 * k) := ⟨_, rfl⟩
      rw [← hx] at ca cb
      obtain ⟨y, hy⟩ : ∃ y : Nat, y = x % 9223372036854775808 := ⟨_, rfl⟩
      rw [← hy] at cb
      have htm : (x : Int).tmod 9223372036854775808 = (y : Int) := by
        rw [hy, Int.tmod_eq_emod_of_nonneg (Int.natCast_nonneg _)]; exact (Int.natCast_emod _ _).symm
      clear hE hF hx hy
      go_wp2_with fail
      go_quiet (fail)
      go_wp2
      go_roundw
      case rel => exact ⟨k + 1, by omega, by go_num, below_drewN BW.out _⟩
      case measure => simp [intOf]; omega
    · obtain rfl : k = 640 := by omega
      have B4 := hid (below_all B3.out BW.out)
      clear hE hF BW A3 F3 B3
      go_wp2_with fail
      refine (works19_any _).mono ?_
      rintro e w5 ⟨rfl, b5⟩
      have B5 := hid (below_all B4.out b5)
      clear b5 B4
      go_wp2_with fail
      refine (refused_any [] 1 0 (noCoins_seed [] (by decide) 1 0 (by omega)) w5).mono ?_
      rintro e w6 ⟨rfl, b6⟩
      have B6 := hid (below_all B5.out b6)
      clear b6 B5
      go_wp2_with fail
      rw [show (⟨A.toArray⟩ : ByteArray) ++ ⟨#[115]⟩ = ⟨(A ++ [115]).toArray⟩ from str_app A [115]]
      refine (refused_any (A ++ [115]) 1 0 (noCoins_seed (A ++ [115]) (by rw [List.length_append, hAl]; decide) 1 0 (by omega)) w6).mono ?_
      rintro e w7 ⟨rfl, b7⟩
      have B7 := hid (below_all B6.out b7)
      clear b7 B6
      go_wp2_with fail
      refine (refused_any A 0 0 (noCoins_zero A hAl 0 (by omega)) w7).mono ?_
      rintro e w8 ⟨rfl, b8⟩
      have B8 := hid (below_all B7.out b8)
      clear b8 B7
      go_wp2_with fail
      refine (cseed_any [] [] [] (by decide) (by decide) (by decide) 0 0 0 (by decide) (by decide) (by decide) w8).mono ?_
      rintro e w9 ⟨rfl, b9⟩
      have B9 := hid (below_all B8.out b9)
      clear b9 B8
      obtain ⟨Y, hY⟩ : ∃ Y, Y = hsh tCoin [[], [], [], b8 0, b8 0, b8 0] := ⟨_, rfl⟩
      have hYl : Y.length = 32 := by rw [hY]; exact hsh_len ⟨by decide, by decide⟩ _
      rw [← hY]
      clear hY
      go_wp2
      go_ret
      exact ⟨rfl, B9.out⟩
end Go.Proofs.Ytcfohdkdppiekaa
