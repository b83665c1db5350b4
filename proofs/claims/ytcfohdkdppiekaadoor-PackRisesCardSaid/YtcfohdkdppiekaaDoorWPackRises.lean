/- PackRises: the walk. -/
import Derived.Test.YtcfohdkdppiekaaDoorWPackWorks
import Derived.Test.YtcfohdkdppiekaaDoorSpecPack
namespace Go.Proofs.YtcfohdkdppiekaaDoor
open Go.RowKit Go.Proofs
theorem bless_eq : ∀ a b : List UInt8, Op.bytesLess a b = bless a b
  | _, [] => by cases ‹List UInt8› <;> rfl
  | [], _ :: _ => rfl
  | a :: x, b :: y => by
    have h1 : Op.bytesLess (a :: x) (b :: y) = (a < b || (a == b && Op.bytesLess x y)) := by rw [Op.bytesLess]
    have h2 : bless (a :: x) (b :: y) = (a < b || (a == b && bless x y)) := by rw [bless]
    rw [h1, h2, bless_eq x y]
theorem laid_num (n : Nat) (hn : n < 2 ^ 64) (N : Int) (hN : N = (n : Int)) (X : List UInt8) (hX : pnum n = X) (B : Nat) (w : World) (hR : RowsIn w B) (hBw : B ≤ w.heap.size) :
    Calls Tryd.prog 17 #[.agg #[.int .i64 0, .int .u64 N, .string ⟨#[]⟩, .int .u32 0]] w fun e w' => e = .returned (.tuple #[.string ⟨X.toArray⟩, .bool true]) ∧ Below w.heap.size w w' := by
  subst hN
  refine (laid_any 0 n hn [] (by simp) 0 (by decide) B w hR hBw (X, 0) (by rw [← hX]; rfl)).mono ?_
  rintro e w' ⟨rfl, hb⟩
  exact ⟨rfl, hb⟩
set_option maxRecDepth 100000 in
set_option maxHeartbeats 4000000 in
theorem packRises_any (n0 : Int) (hn0 : 0 ≤ n0 ∧ n0 ≤ 18446744073709551615) (n1 : Int) (hn1 : 0 ≤ n1 ∧ n1 ≤ 18446744073709551615) (w : World) (hR : RowsIn w w.heap.size) :
    Calls Tryd.prog 6 #[.int .u64 n0, .int .u64 n1] w fun e w' => e = .returned (.bool true) ∧ Below w.heap.size w w' := by
  obtain ⟨a, ha⟩ : ∃ a : Nat, n0 = (a : Int) := ⟨n0.toNat, by omega⟩
  obtain ⟨b, hb⟩ : ∃ b : Nat, n1 = (b : Int) := ⟨n1.toNat, by omega⟩
  have ha6 : a < 2 ^ 64 := by omega
  have hb6 : b < 2 ^ 64 := by omega
  obtain ⟨X, hX⟩ : ∃ X, pnum a = X := ⟨_, rfl⟩
  obtain ⟨Y, hY⟩ : ∃ Y, pnum b = Y := ⟨_, rfl⟩
  have hl : Op.bytesLess X Y = decide (a < b) := by rw [bless_eq, ← hX, ← hY, bless_pnum a b (by omega) (by omega)]
  have hi : X = Y ↔ a = b := by
    rw [← hX, ← hY]
    exact ⟨fun h => pnum_inj (by omega) (by omega) h, fun h => by rw [h]⟩
  have hlen : X.length = 1 + psize a := by rw [← hX, pnum_len]
  have HR := hid hR
  have HLA := hid (fun B w => laid_num a ha6 n0 ha X hX B w)
  have HLB := hid (fun B w => laid_num b hb6 n1 hb Y hY B w)
  have hc : (n0 < 128 ∧ (X.length : Int) = 1) ∨ (¬ n0 < 128 ∧ n0 < 256 ∧ (X.length : Int) = 2) ∨ (¬ n0 < 256 ∧ n0 < 65536 ∧ (X.length : Int) = 3) ∨ (¬ n0 < 65536 ∧ n0 < 4294967296 ∧ (X.length : Int) = 5) ∨ (¬ n0 < 4294967296 ∧ (X.length : Int) = 9) := by
    rcases pcase a with h | h | h | h | h <;> omega
  have ht : (n0 < n1 ∧ Op.bytesLess X Y = true ∧ (X == Y) = false ∧ (n0 == n1) = false) ∨ (n0 = n1 ∧ X = Y ∧ Op.bytesLess X X = false) ∨ (¬ n0 < n1 ∧ Op.bytesLess X Y = false ∧ (X == Y) = false ∧ (n0 == n1) = false) := by
    rcases Nat.lt_trichotomy a b with h | h | h
    · left
      refine ⟨by omega, by rw [hl]; simpa using h, ?_, ?_⟩
      · rw [beq_eq_false_iff_ne]; intro e; have := hi.1 e; omega
      · rw [beq_eq_false_iff_ne]; omega
    · right; left
      refine ⟨by omega, hi.2 h, ?_⟩
      rw [← hi.2 h] at hl
      rw [hl]; simp; omega
    · right; right
      refine ⟨by omega, by rw [hl]; simp; omega, ?_, ?_⟩
      · rw [beq_eq_false_iff_ne]; intro e; have := hi.1 e; omega
      · rw [beq_eq_false_iff_ne]; omega
  clear hR ha hb ha6 hb6 hX hY hl hi hlen hn0 hn1
  rcases ht with ⟨h1, h2, h3, h4⟩ | ⟨h1, h2, h3⟩ | ⟨h1, h2, h3, h4⟩
  · have h5 : ¬ X = Y := by intro e; rw [e] at h3; simp at h3
    rcases hc with ⟨k1, k2⟩ | ⟨k1, k3, k2⟩ | ⟨k1, k3, k2⟩ | ⟨k1, k3, k2⟩ | ⟨k1, k2⟩
    all_goals
      go_enter Tryd.func6, Tryd.ntmps6
      go_wp2_with fail
      refine (works_any w.heap.size w HR.out (Nat.le_refl _)).mono ?_
      rintro e w1 ⟨rfl, b1⟩
      have B1 := hid b1
      have R1 := hid (HR.out.keep b1)
      have S1 := hid b1.size
      clear b1
      go_wp2_with fail
      refine (HLA.out w.heap.size w1 R1.out S1.out).mono ?_
      rintro e w2 ⟨rfl, c2⟩
      have B2 := hid (below_all B1.out c2)
      have R2 := hid (R1.out.keep (c2.mono S1.out))
      have S2 := hid (Nat.le_trans S1.out c2.size)
      clear c2 B1 R1 S1
      go_wp2_with fail
      refine (HLB.out w.heap.size w2 R2.out S2.out).mono ?_
      rintro e w3 ⟨rfl, c3⟩
      have B3 := hid (below_all B2.out c3)
      clear c3 B2 R2 S2
      go_wp2
      go_ret
      exact ⟨rfl, B3.out⟩
  · subst h1
    subst h2
    rcases hc with ⟨k1, k2⟩ | ⟨k1, k3, k2⟩ | ⟨k1, k3, k2⟩ | ⟨k1, k3, k2⟩ | ⟨k1, k2⟩
    all_goals
      go_enter Tryd.func6, Tryd.ntmps6
      go_wp2_with fail
      refine (works_any w.heap.size w HR.out (Nat.le_refl _)).mono ?_
      rintro e w1 ⟨rfl, b1⟩
      have B1 := hid b1
      have R1 := hid (HR.out.keep b1)
      have S1 := hid b1.size
      clear b1
      go_wp2_with fail
      refine (HLA.out w.heap.size w1 R1.out S1.out).mono ?_
      rintro e w2 ⟨rfl, c2⟩
      have B2 := hid (below_all B1.out c2)
      have R2 := hid (R1.out.keep (c2.mono S1.out))
      have S2 := hid (Nat.le_trans S1.out c2.size)
      clear c2 B1 R1 S1
      go_wp2_with fail
      refine (HLB.out w.heap.size w2 R2.out S2.out).mono ?_
      rintro e w3 ⟨rfl, c3⟩
      have B3 := hid (below_all B2.out c3)
      clear c3 B2 R2 S2
      go_wp2
      go_ret
      exact ⟨rfl, B3.out⟩
  · have h5 : ¬ X = Y := by intro e; rw [e] at h3; simp at h3
    rcases hc with ⟨k1, k2⟩ | ⟨k1, k3, k2⟩ | ⟨k1, k3, k2⟩ | ⟨k1, k3, k2⟩ | ⟨k1, k2⟩
    all_goals
      go_enter Tryd.func6, Tryd.ntmps6
      go_wp2_with fail
      refine (works_any w.heap.size w HR.out (Nat.le_refl _)).mono ?_
      rintro e w1 ⟨rfl, b1⟩
      have B1 := hid b1
      have R1 := hid (HR.out.keep b1)
      have S1 := hid b1.size
      clear b1
      go_wp2_with fail
      refine (HLA.out w.heap.size w1 R1.out S1.out).mono ?_
      rintro e w2 ⟨rfl, c2⟩
      have B2 := hid (below_all B1.out c2)
      have R2 := hid (R1.out.keep (c2.mono S1.out))
      have S2 := hid (Nat.le_trans S1.out c2.size)
      clear c2 B1 R1 S1
      go_wp2_with fail
      refine (HLB.out w.heap.size w2 R2.out S2.out).mono ?_
      rintro e w3 ⟨rfl, c3⟩
      have B3 := hid (below_all B2.out c3)
      clear c3 B2 R2 S2
      go_wp2
      go_ret
      exact ⟨rfl, B3.out⟩
end Go.Proofs.YtcfohdkdppiekaaDoor
