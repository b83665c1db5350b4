/- The law's hex: contract. -/
import Derived.Test.YtcfohdkdppiekaaWShaSum
import Derived.Test.YtcfohdkdppiekaaSpecHex
namespace Go.Proofs.Ytcfohdkdppiekaa
open Go.RowKit Go.Proofs
theorem hex_at (n : Nat) (h : n < (⟨#[48, 49, 50, 51, 52, 53, 54, 55, 56, 57, 97, 98, 99, 100, 101, 102]⟩ : ByteArray).size) :
    (⟨#[48, 49, 50, 51, 52, 53, 54, 55, 56, 57, 97, 98, 99, 100, 101, 102]⟩ : ByteArray)[n] = hexs.getD n 0 := by
  have h2 : n < hexs.length := h
  rw [List.getD_eq_getElem?_getD, List.getElem?_eq_getElem h2]; rfl
theorem hex_cells (c : UInt8) (h1 : c.toNat / 16 < (⟨#[48, 49, 50, 51, 52, 53, 54, 55, 56, 57, 97, 98, 99, 100, 101, 102]⟩ : ByteArray).size) (h2 : c.toNat % 16 < (⟨#[48, 49, 50, 51, 52, 53, 54, 55, 56, 57, 97, 98, 99, 100, 101, 102]⟩ : ByteArray).size) :
    #[Value.int .u8 (((⟨#[48, 49, 50, 51, 52, 53, 54, 55, 56, 57, 97, 98, 99, 100, 101, 102]⟩ : ByteArray)[c.toNat / 16]'h1).toNat : Int), Value.int .u8 (((⟨#[48, 49, 50, 51, 52, 53, 54, 55, 56, 57, 97, 98, 99, 100, 101, 102]⟩ : ByteArray)[c.toNat % 16]'h2).toNat : Int)] = (bcs (hex2 c)).toArray := by
  rw [hex_at _ h1, hex_at _ h2]
  rfl
set_option maxRecDepth 100000 in
set_option maxHeartbeats 1000000 in
theorem hex_any (l : List UInt8) (hl : l.length ≤ 1000) (w : World) :
    Calls Try.prog 84 #[.string ⟨l.toArray⟩] w fun e w' => e = .returned (.string ⟨(hexb l).toArray⟩) ∧ Below w.heap.size w w' := by
  obtain ⟨i0, hi, hz0, hz1, hz2⟩ := info_parts info_byte
  go_enter Try.func84, Try.ntmps84
  go_wp2_with ((at_make; go_must (refine wpList_make_own w rfl _ _ 22 rfl w.heap.size 5 i0 (.int .u8 0) 1 Try.underlying22 hi hz0 hz1 .i64 .i64 (2 * (l.length : Int)) (2 * l.length) rfl rfl (by omega) (by rw [hz2]; omega) (by unfold maxLen; omega) (Nat.le_refl _) ?_); intro w1 how hgr))
  have ho1 : own w1 w.heap.size (.slice (some ⟨w.heap.size, 0, none⟩) 0 (2 * l.length)) [] := how
  have b1 : Below w.heap.size w w1 := (Below.refl _ _).grown hgr (Nat.le_refl _) (fun k hk => by cases hk)
  clear hgr how hi hz0 hz1 hz2
  go_wp2
  go_loopw [4, 5] (fun v i wr => ∃ k : Nat, k ≤ l.length ∧ i = .int .i64 k ∧ own wr w.heap.size v (hexb (l.take k)) ∧ Below w.heap.size w wr) (fun _ i _ => l.length - (intOf i).toNat)
  case atStart => exact ⟨0, by omega, rfl, ho1, b1⟩
  case round =>
    clear ho1 b1
    obtain ⟨k, hk, rfl, ho, hbel⟩ := hrel
    by_cases hlt : k < l.length
    · have hlt' : (k : Int) < (l.length : Int) := by omega
      obtain ⟨c, hc⟩ : ∃ c, c = l.getD k 0 := ⟨_, rfl⟩
      have hcb := c.toNat_lt
      have hge : (⟨l.toArray⟩ : ByteArray)[k]'(by simpa [ByteArray.size] using hlt) = c := by
        rw [hc, List.getD_eq_getElem?_getD, List.getElem?_eq_getElem hlt]; rfl
      have HC := hid hc
      clear hc
      have d1 : 0 ≤ (c.toNat : Int) / 16 ∧ (c.toNat : Int) / 16 < 16 := by omega
      have d2 : 0 ≤ (c.toNat : Int) % 16 ∧ (c.toNat : Int) % 16 < 16 := by omega
      go_wp2
      refine wp_region_move_tail 12 (by kernel_rfl) (by kernel_rfl) _ rfl rfl (fun _ _ _ h => h) ?_
      simp only [List.take_succ_cons, List.take_zero, List.drop_succ_cons, List.drop_zero]
      go_frame
      repeat (go_big_quiet_step (fail))
      refine wpQuiet_nil fun u => ?_
      have hb6 := u.below
      have ho6 := ho.keep hb6
      have bw6 := below_call hbel hb6 hbel.size
      obtain ⟨w6, hw6⟩ : ∃ w6, w6 = later wr u := ⟨_, rfl⟩
      rw [show u.w = w6 from hw6.symm] at hb6 ho6 bw6
      rw [← hw6]
      have hl6 : (hexb (l.take k)).length ≤ 2000 := by rw [hexb_len, List.length_take]; omega
      clear hw6 ho hbel
      go_wp2_with ((at_builtin; go_must (refine own_append rfl _ _ rfl w.heap.size u4 (hexb (l.take k)) (hex2 c) rfl (ho6.alloc _) w6.heap.size 0 2 rfl (by intro j hj; rw [hex_cells, Nat.zero_add]; exact (arr.new w6 _ _).cell j _ (bcs_get _ j hj)) (by simp [hex2]; omega) (by have := bw6.size; simp; omega) ?_); intro v7 w7 ho7 hg7))
      go_roundw
      case rel =>
        have hs6 := bw6.size
        refine ⟨k + 1, by omega, by go_num, ?_, below_own (bw6.alloc (by omega) _) (ho6.alloc _) hg7 (by simp; omega) (Nat.le_refl _)⟩
        rw [hexb_take l k hlt, ← HC.out]; exact ho7
      case measure => simp [intOf]; omega
    · obtain rfl : k = l.length := by omega
      rw [List.take_length] at ho
      go_wp2_with (refine wpList_text rfl _ rfl (base := w.heap.size) u4 (hexb l) rfl ho ?_)
      go_ret
      exact ⟨rfl, hbel⟩
end Go.Proofs.Ytcfohdkdppiekaa
