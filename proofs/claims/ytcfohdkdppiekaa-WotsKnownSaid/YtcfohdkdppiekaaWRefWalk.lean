/- Walks along a chain, the document's answer: contract. -/
import Derived.Test.YtcfohdkdppiekaaWRefDigits
import Derived.Test.YtcfohdkdppiekaaWHashD
import Derived.Test.YtcfohdkdppiekaaWNum
namespace Go.Proofs.Ytcfohdkdppiekaa
open Go Go.RowKit Go.Proofs
theorem byte_cells {w : World} {b : Nat} {T : TypeId} (i : Nat) (hi : i < 256) (h : arr w b T [.int .u8 (i : Int)]) : ∀ k, k < [UInt8.ofNat i].length → w.cell? ⟨b, 0 + k, none⟩ = some (.int .u8 (([UInt8.ofNat i].getD k 0).toNat : Int)) := by
  intro k hk
  obtain rfl : k = 0 := by simpa using hk
  rw [h.cell 0 _ rfl]
  simp
  omega
theorem parts3_len (a b x : List UInt8) (n : Nat) (h : a.length + b.length + x.length ≤ n) : (fparts [a, b, x]).length ≤ 24 + n := by
  simp [fparts, b8_len]; omega
set_option maxRecDepth 100000 in
set_option maxHeartbeats 4000000 in
theorem rwalk_any (i a b : Nat) (hi : i ≤ 66) (hab : a ≤ b) (hb : b ≤ 15) (x : List UInt8) (hx : x.length ≤ 1000000) (w : World) :
    Calls Try.prog 127 #[.int .i64 (i : Int), .int .i64 (a : Int), .int .i64 (b : Int), .string ⟨x.toArray⟩] w fun e w' => e = .returned (.string ⟨(wlk i a b x).toArray⟩) ∧ Below w.heap.size w w' := by
  have k1 : ¬ (i : Int) < 0 := by omega
  have k2 : ¬ 66 < (i : Int) := by omega
  have k3 : ¬ (a : Int) < 0 := by omega
  have k4 : ¬ (b : Int) < (a : Int) := by omega
  have k4' : ¬ b < a := by omega
  have k5 : ¬ 15 < (b : Int) := by omega
  go_enter Try.func127, Try.ntmps127
  go_wp2_with fail
  go_loopw [3, 9] (fun s j wr => ∃ n : Nat, a + n ≤ b ∧ j = .int .i64 ((a + n : Nat) : Int) ∧ s = .string ⟨(wk i a n x).toArray⟩ ∧ Below w.heap.size w wr) (fun _ j _ => b - (intOf j).toNat)
  case atStart => exact ⟨0, by omega, rfl, rfl, Below.refl _ _⟩
  case round =>
    obtain ⟨n, hn, rfl, rfl, hbel⟩ := hrel
    have HB := hid hbel
    clear hbel
    by_cases hlt : a + n < b
    · obtain ⟨j, hj⟩ : ∃ j, j = a + n := ⟨_, rfl⟩
      rw [← hj]
      have hjb : (j : Int) < (b : Int) := by omega
      have hj256 : j < 256 := by omega
      have hi256 : i < 256 := by omega
      obtain ⟨y, hy⟩ : ∃ y, y = wk i a n x := ⟨_, rfl⟩
      have hyl : y.length ≤ 1000000 := by rw [hy]; exact wk_len_le i a n 1000000 x hx (by omega)
      have hnext : wk i a (n + 1) x = hsh tChain [[UInt8.ofNat i], [UInt8.ofNat j], y] := by rw [wk_succ, hj, hy]; rfl
      have HN := hid hnext
      have HJ := hid hj
      have HYL := hid hyl
      rw [← hy]
      clear hy hj hnext hyl
      go_wp2_with (first
        | refine wpList_b2s rfl _ rfl _ 0 1 1 [UInt8.ofNat i] rfl rfl (byte_cells i hi256 (arr.newAt _ _ [_] _ (by simp))) ?_
        | refine wpList_b2s rfl _ rfl _ 0 1 1 [UInt8.ofNat j] rfl rfl (byte_cells j hj256 (arr.newAt _ _ [_] _ (by simp))) ?_)
      obtain ⟨W2, hW2⟩ : ∃ W2, W2 = (wr.alloc (.cells #[.int .u8 (i : Int)] 5)).alloc (.cells #[.int .u8 (j : Int)] 5) := ⟨_, rfl⟩
      have hsz : wr.heap.size + 1 + 1 = W2.heap.size := by rw [hW2]; simp
      have hb2 : Below wr.heap.size wr W2 := by rw [hW2]; exact ((Below.refl _ _).alloc (Nat.le_refl _) _).alloc (by simp) _
      rw [← hW2, hsz]
      have B2 := below_all HB.out hb2
      have hp := parts3_len [UInt8.ofNat i] [UInt8.ofNat j] y 1000002 (by have := HYL.out; simp; omega)
      refine (refHash_any tChain [[UInt8.ofNat i], [UInt8.ofNat j], y] _ _ (strsAt.lit' W2 [[UInt8.ofNat i], [UInt8.ofNat j], y] (by have := HYL.out; simp; omega) (by simp) 9) (by decide) (by omega) (by have := HYL.out; simp; omega)).mono ?_
      rintro e w4 ⟨rfl, b4⟩
      have B4 := hid ((B2.alloc B2.size _).trans (b4.mono (by have := B2.size; simp; omega)))
      clear b4 B2 hp hb2 hsz hW2
      rw [← HN.out]
      go_wp2
      go_roundw
      case rel => exact ⟨n + 1, by omega, by rw [← Nat.add_assoc, ← HJ.out]; go_num, rfl, B4.out⟩
      case measure => simp [intOf]; omega
    · obtain rfl : b = a + n := by omega
      have hlt' : ¬ ((a + n : Nat) : Int) < ((a + n : Nat) : Int) := by omega
      go_wp2
      go_ret
      refine ⟨?_, HB.out⟩
      unfold wlk
      rw [show a + n - a = n by omega]
      rfl
end Go.Proofs.Ytcfohdkdppiekaa
