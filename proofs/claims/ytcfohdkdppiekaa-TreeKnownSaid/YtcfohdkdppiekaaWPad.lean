/- The reference's padded text. -/
import Derived.Test.YtcfohdkdppiekaaWBlkB
import Derived.Test.YtcfohdkdppiekaaKitP
namespace Go.Proofs.Ytcfohdkdppiekaa
open Go.RowKit Go.Proofs
theorem b8_take (n : Nat) (k : Nat) (hk : k < 8) : (b8 n).take k ++ [UInt8.ofNat (n / 2 ^ (56 - 8 * k) % 256)] = (b8 n).take (k + 1) := by
  have e : ∀ x : Nat, UInt8.ofNat (x % 256) = x.toUInt8 := fun x => by
    apply UInt8.toNat_inj.1
    simp
  rw [e]
  match k, hk with
  | 0, _ => rfl
  | 1, _ => rfl
  | 2, _ => rfl
  | 3, _ => rfl
  | 4, _ => rfl
  | 5, _ => rfl
  | 6, _ => rfl
  | 7, _ => simp [b8]
/-- a text's length in a slot -/
def strLen : Value → Nat | .string s => s.size | _ => 0
set_option maxRecDepth 100000 in
set_option maxHeartbeats 1000000 in
theorem padded_any (l : List UInt8) (hl : l.length ≤ 1000000000000) (w : World) :
    Calls Try.prog 109 #[.string ⟨l.toArray⟩] w fun e w' => e = .returned (.string ⟨(pad l).toArray⟩) ∧ Below w.heap.size w w' := by
  go_enter Try.func109, Try.ntmps109
  go_wp2
  have hnz : nzs l.length < 64 := Nat.mod_lt _ (by decide)
  go_loop [0] (fun v => ∃ z : Nat, z ≤ nzs l.length ∧ v = .string ⟨(l ++ 128 :: List.replicate z 0).toArray⟩) (fun v => nzs l.length + l.length + 1 - strLen v)
  case atStart => exact ⟨0, by omega, by rw [str_app1]; rfl⟩
  case round =>
    obtain ⟨z, hz, rfl⟩ := hrel
    obtain ⟨m, hm⟩ : ∃ m, m = l ++ 128 :: List.replicate z 0 := ⟨_, rfl⟩
    have hmlen : m.length = l.length + 1 + z := by rw [hm]; simp; omega
    have hmb : m.length ≤ 2000000000000 := by omega
    rw [← hm]
    have HM := hid hm
    have HML := hid hmlen
    clear hm
    by_cases hlt : z < nzs l.length
    · have ht : ((m.length : Int) % 64 != 56) = true := by
        rw [bne_iff_ne]; unfold nzs at hlt; omega
      clear hmlen
      go_wp2
      go_round
      case rel => exact ⟨z + 1, by omega, by rw [str_app1, HM.out]; simp [List.replicate_succ']⟩
      case measure => have := HML.out; simp only [strLen, ByteArray.size]; simp; omega
    · have ht : ((m.length : Int) % 64 != 56) = false := by
        rw [bne_eq_false_iff_eq]; unfold nzs at hlt hz; omega
      clear hmlen
      go_wp2
      go_loopw [0, 4] (fun v i wr => ∃ k : Nat, k ≤ 8 ∧ i = .int .i64 (56 - 8 * (k : Int)) ∧ v = .string ⟨(m ++ (b8 (8 * l.length)).take k).toArray⟩ ∧ Below w.heap.size w wr) (fun _ i _ => (8 + intOf i).toNat)
      case atStart => exact ⟨0, by omega, rfl, by simp, Below.refl _ _⟩
      case round =>
        obtain ⟨k, hk, rfl, rfl, hbel⟩ := hrel
        obtain ⟨q, hq⟩ : ∃ q, q = m ++ (b8 (8 * l.length)).take k := ⟨_, rfl⟩
        have hqb : q.length ≤ 3000000000000 := by rw [hq]; simp; omega
        rw [← hq]
        have HQ := hid hq
        clear hq
        by_cases hlk : k < 8
        · have h1 : 0 ≤ 56 - 8 * (k : Int) := by omega
          have kc := conv1
          have x0 : 0 ≤ (8 * (l.length : Int)) / 2 ^ (56 - 8 * k) % 256 := by omega
          have x1 : (8 * (l.length : Int)) / 2 ^ (56 - 8 * k) % 256 < 256 := by omega
          go_wp2
          go_roundw
          case rel =>
            refine ⟨k + 1, by omega, by go_num, ?_, hbel.alloc hbel.size _⟩
            have e : (8 * (l.length : Int) / 2 ^ (56 - 8 * k) % 256).toNat = 8 * l.length / 2 ^ (56 - 8 * k) % 256 := by
              have : (8 * (l.length : Int) / 2 ^ (56 - 8 * k) % 256) = ((8 * l.length / 2 ^ (56 - 8 * k) % 256 : Nat) : Int) := by simp
              rw [this]; rfl
            rw [e, str_app1, HQ.out, List.append_assoc, b8_take _ _ hlk]
          case measure => simp [intOf]; omega
        · go_wp2
          go_ret
          obtain rfl : k = 8 := by omega
          refine ⟨?_, hbel⟩
          have e : z = nzs l.length := by omega
          have e2 : 8 * l.length % 18446744073709551616 = 8 * l.length := Nat.mod_eq_of_lt (by omega)
          rw [HQ.out, HM.out, e, pad, e2]
          rfl
end Go.Proofs.Ytcfohdkdppiekaa
