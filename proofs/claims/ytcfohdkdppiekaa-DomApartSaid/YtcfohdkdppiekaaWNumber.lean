/- law02's number: contract. -/
import Derived.Test.YtcfohdkdppiekaaSpecNum
import Derived.Test.YtcfohdkdppiekaaWLaw02
namespace Go.Proofs.Ytcfohdkdppiekaa
open Go.RowKit Go.Proofs
theorem or_byte (n : Nat) (c : UInt8) : bits BinOp.or IntKind.u64 (IntKind.u64.wrap ((n : Int) * 256)) (c.toNat : Int) = (((n * 256 + c.toNat) % 18446744073709551616 : Nat) : Int) := by
  have hc := c.toNat_lt
  have h1 : IntKind.u64.wrap ((n : Int) * 256) = ((n * 256 % 18446744073709551616 : Nat) : Int) := by
    rw [IntKind.wrap_u64]; omega
  have h2 : n * 256 % 18446744073709551616 = (n % 72057594037927936) * 2 ^ 8 := by omega
  rw [h1, u64_or_nat _ _ (Nat.mod_lt _ (by decide)) (by omega), h2, Nat.mul_comm, ← Nat.two_pow_add_eq_or_of_lt (by omega)]
  congr 1
  omega
set_option maxRecDepth 100000 in
set_option maxHeartbeats 1000000 in
theorem number_any (l : List UInt8) (hl : l.length ≤ 9000000000000000000) (w : World) :
    Calls Try.prog 48 #[.string ⟨l.toArray⟩] w fun e w' => e = .returned (.int .u64 ((numb l : Nat) : Int)) ∧ w' = w := by
  go_enter Try.func48, Try.ntmps48
  go_wp2
  go_loop [3, 4] (fun v i => ∃ k : Nat, k ≤ l.length ∧ i = .int .i64 k ∧ v = .int .u64 ((numb (l.take k) : Nat) : Int)) (fun _ i => l.length - (intOf i).toNat)
  case atStart => exact ⟨0, by omega, rfl, rfl⟩
  case round =>
    obtain ⟨k, hk, rfl, rfl⟩ := hrel
    by_cases hlt : k < l.length
    · have hlt' : (k : Int) < (l.length : Int) := by omega
      obtain ⟨c, hc⟩ : ∃ c, c = l.getD k 0 := ⟨_, rfl⟩
      have hcb := c.toNat_lt
      have hge : (⟨l.toArray⟩ : ByteArray)[k]'(by simpa [ByteArray.size] using hlt) = c := by
        rw [hc, List.getD_eq_getElem?_getD, List.getElem?_eq_getElem hlt]; rfl
      have HT := hid (numb_take l k hlt)
      rw [← hc] at HT
      obtain ⟨n, hn⟩ : ∃ n, n = numb (l.take k) := ⟨_, rfl⟩
      have hnl : (n : Int) ≤ 18446744073709551615 := by have := numb_lt (l.take k); omega
      rw [← hn] at HT ⊢
      clear hc hn
      go_wp2
      go_round
      case rel => exact ⟨k + 1, by omega, by go_num, val_int (by rw [HT.out]; exact or_byte n c)⟩
      case measure => simp [intOf]; omega
    · obtain rfl : k = l.length := by omega
      rw [List.take_length]
      go_wp2
      go_ret
      exact ⟨rfl, rfl⟩
end Go.Proofs.Ytcfohdkdppiekaa
