/- The laws DomNumbers and DomKnown: the walks. -/
import Derived.Test.YtcfohdkdppiekaaWNumber
namespace Go.Proofs.Ytcfohdkdppiekaa
open Go.RowKit Go.Proofs
theorem bless_eq : ∀ a b : List UInt8, Op.bytesLess a b = bless a b
  | _, [] => by cases ‹List UInt8› <;> rfl
  | [], _ :: _ => rfl
  | a :: x, b :: y => by
    have h1 : Op.bytesLess (a :: x) (b :: y) = (a < b || (a == b && Op.bytesLess x y)) := by rw [Op.bytesLess]
    have h2 : bless (a :: x) (b :: y) = (a < b || (a == b && bless x y)) := by rw [bless]
    rw [h1, h2, bless_eq x y]
set_option maxRecDepth 100000 in
set_option maxHeartbeats 2000000 in
theorem domNumbers_any (n0 : Int) (hn0 : 0 ≤ n0 ∧ n0 ≤ 18446744073709551615) (n1 : Int) (hn1 : 0 ≤ n1 ∧ n1 ≤ 18446744073709551615) (w : World) :
    Calls Try.prog 9 #[.int .u64 n0, .int .u64 n1] w fun e w' => e = .returned (.bool true) ∧ Below w.heap.size w w' := by
  obtain ⟨a, rfl⟩ := Int.eq_ofNat_of_zero_le hn0.1
  obtain ⟨b, rfl⟩ := Int.eq_ofNat_of_zero_le hn1.1
  have ha : a < 18446744073709551616 := by omega
  have hb : b < 18446744073709551616 := by omega
  obtain ⟨X, hX⟩ : ∃ X, X = b8 a := ⟨_, rfl⟩
  obtain ⟨Y, hY⟩ : ∃ Y, Y = b8 b := ⟨_, rfl⟩
  have hl : Op.bytesLess X Y = decide (a < b) := by rw [bless_eq, hX, hY, bless_b8 a b ha hb]
  have hi : X = Y ↔ a = b := by
    rw [hX, hY]
    exact ⟨fun h => b8_inj ha hb h, fun h => by rw [h]⟩
  have HNX := hid (num_any (a : Int) hn0.1 hn0.2)
  have HNY := hid (num_any (b : Int) hn1.1 hn1.2)
  rw [Int.toNat_natCast] at HNX HNY
  rw [← hX] at HNX
  rw [← hY] at HNY
  have hXl : X.length = 8 := by rw [hX]; rfl
  have HNU := hid (number_any X (by rw [hXl]; decide))
  rw [hX, numb_b8 a ha, ← hX] at HNU
  clear hX hY hn0 hn1 ha hb
  have hlt : decide ((a : Int) < (b : Int)) = decide (a < b) := by simp
  have hXl2 : (X.length : Int) = 8 := by omega
  rcases Nat.lt_trichotomy a b with h | h | h
  · have h1 : Op.bytesLess X Y = true := by rw [hl]; simpa using h
    have h2 : (X == Y) = false := by rw [beq_eq_false_iff_ne]; intro e; have := hi.1 e; omega
    have h3 : (a : Int) < (b : Int) := by omega
    have h4 : ((a : Int) == (b : Int)) = false := by rw [beq_eq_false_iff_ne]; omega
    have h5 : ¬ X = Y := by intro e; have := hi.1 e; omega
    clear hi hl h hlt
    go_enter Try.func9, Try.ntmps9
    go_wp2_with fail
    refine (HNX.out _).mono ?_
    rintro e w1 ⟨rfl, b1⟩
    go_wp2_with fail
    refine (HNY.out _).mono ?_
    rintro e w2 ⟨rfl, c2⟩
    have b2 := below_all b1 c2
    clear b1 c2
    go_wp2_with fail
    refine (works2_any _).mono ?_
    rintro e w3 ⟨rfl, c3⟩
    have b3 := below_all b2 c3
    clear b2 c3
    go_wp2_with fail
    refine (HNU.out _).mono ?_
    rintro e w4 ⟨rfl, hw⟩
    subst hw
    go_wp2
    go_ret
    exact ⟨rfl, b3⟩
  · subst h
    obtain rfl : X = Y := hi.2 rfl
    have h1 : Op.bytesLess X X = false := by rw [hl]; simp
    clear hi hl hlt
    go_enter Try.func9, Try.ntmps9
    go_wp2_with fail
    refine (HNX.out _).mono ?_
    rintro e w1 ⟨rfl, b1⟩
    go_wp2_with fail
    refine (HNX.out _).mono ?_
    rintro e w2 ⟨rfl, c2⟩
    have b2 := below_all b1 c2
    clear b1 c2
    go_wp2_with fail
    refine (works2_any _).mono ?_
    rintro e w3 ⟨rfl, c3⟩
    have b3 := below_all b2 c3
    clear b2 c3
    go_wp2_with fail
    refine (HNU.out _).mono ?_
    rintro e w4 ⟨rfl, hw⟩
    subst hw
    go_wp2
    go_ret
    exact ⟨rfl, b3⟩
  · have h1 : Op.bytesLess X Y = false := by rw [hl]; simp; omega
    have h2 : (X == Y) = false := by rw [beq_eq_false_iff_ne]; intro e; have := hi.1 e; omega
    have h3 : ¬ (a : Int) < (b : Int) := by omega
    have h6 : decide (a < b) = false := by simp; omega
    have h4 : ((a : Int) == (b : Int)) = false := by rw [beq_eq_false_iff_ne]; omega
    have h5 : ¬ X = Y := by intro e; have := hi.1 e; omega
    clear hi hl h hlt
    go_enter Try.func9, Try.ntmps9
    go_wp2_with fail
    refine (HNX.out _).mono ?_
    rintro e w1 ⟨rfl, b1⟩
    go_wp2_with fail
    refine (HNY.out _).mono ?_
    rintro e w2 ⟨rfl, c2⟩
    have b2 := below_all b1 c2
    clear b1 c2
    go_wp2_with fail
    refine (works2_any _).mono ?_
    rintro e w3 ⟨rfl, c3⟩
    have b3 := below_all b2 c3
    clear b2 c3
    go_wp2_with fail
    refine (HNU.out _).mono ?_
    rintro e w4 ⟨rfl, hw⟩
    subst hw
    go_wp2
    go_ret
    exact ⟨rfl, b3⟩
end Go.Proofs.Ytcfohdkdppiekaa
