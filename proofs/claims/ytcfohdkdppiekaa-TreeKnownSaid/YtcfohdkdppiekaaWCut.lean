/- law01's cut: contract. -/
import Derived.Test.YtcfohdkdppiekaaStrs
import Derived.Test.YtcfohdkdppiekaaTail
namespace Go.Proofs.Ytcfohdkdppiekaa
open Go.RowKit Go.Proofs
theorem cut_text (s : List UInt8) (n : Nat) : ∀ m : Nat, (m = n ∨ (m = s.length ∧ s.length ≤ n)) → (⟨s.toArray⟩ : ByteArray).extract 0 m = ⟨(s.take n).toArray⟩ := by
  intro m hm
  have h : (⟨s.toArray⟩ : ByteArray).extract 0 m = ⟨(s.take m).toArray⟩ := by rw [ByteArray.extract_mk]; simp
  rw [h]
  rcases hm with rfl | ⟨rfl, h2⟩
  · rfl
  · rw [List.take_length, List.take_of_length_le h2]
set_option maxRecDepth 100000 in
set_option maxHeartbeats 1000000 in
theorem cut_any (L : List (List UInt8)) (v : Value) (w : World) (hv : strsAt w w.heap.size v L) : Calls Try.prog 34 #[v] w (GivesS w (cuts 20 300 L)) := by
  obtain ⟨⟨A, c, rfl, hlc, hc, hx⟩, ht⟩ := hv
  have HX := hid hx
  have HT := hid ht
  clear hx ht
  go_enter Try.func34, Try.ntmps34
  go_wp2
  go_loopw [3, 4] (fun u i wr => ∃ k : Nat, k ≤ 20 ∧ k ≤ L.length ∧ i = .int .i64 k ∧ ownS wr w.heap.size u (cuts k 300 L) ∧ Below w.heap.size w wr) (fun _ i _ => 20 - (intOf i).toNat)
  case atStart => exact ⟨0, by omega, by omega, rfl, ownS.nil _ _, Below.refl _ _⟩
  case round =>
    obtain ⟨k, hkn, hkl, rfl, ho, hbel⟩ := hrel
    by_cases hlt : k < L.length
    · by_cases h20 : k < 20
      · obtain ⟨a, rfl, hab, hcell⟩ := HX.out k hlt
        obtain ⟨s, hs⟩ : ∃ s, s = L.getD k [] := ⟨_, rfl⟩
        have hsl : s.length ≤ 9223372036854775807 := by
          rw [hs]
          exact HT.out _ (by rw [List.getD_eq_getElem?_getD, List.getElem?_eq_getElem hlt]; exact List.getElem_mem hlt)
        rw [← hs, ← hbel.cell (by rw [block_add]; exact hab)] at hcell
        have hak : (a.add k).block < wr.heap.size := by rw [block_add]; have := hbel.size; omega
        have HS := hid hs
        have HEX := hid (cut_text s 300)
        have hlt' : (k : Int) < (L.length : Int) := by omega
        have h20' : (k : Int) < 20 := by omega
        clear hs
        obtain ⟨q, hq, hq2, hq3⟩ : ∃ q : Nat, min (s.length : Int) 300 = (q : Int) ∧ (q = 300 ∨ (q = s.length ∧ s.length ≤ 300)) ∧ q ≤ s.length := by
          by_cases h3 : s.length ≤ 300
          · exact ⟨s.length, by omega, Or.inr ⟨rfl, h3⟩, Nat.le_refl _⟩
          · exact ⟨300, by omega, Or.inl rfl, by omega⟩
        have hqa : (if (300 : Int) < (s.length : Int) then (300 : Int) else (s.length : Int)) = (q : Int) := by
          rw [← hq]
          split <;> omega
        have HQ2 := hid hq2
        clear hq2
        all_goals
          go_wp2
          refine wp_region_move_tail 11 (by kernel_rfl) (by kernel_rfl) _ rfl rfl (fun _ _ _ h => h) ?_
          simp only [List.take_succ_cons, List.take_zero, List.drop_succ_cons, List.drop_zero]
          go_frame
          repeat (go_big_quiet_step (fail))
          refine wpQuiet_nil fun u => ?_
          have hb6 := u.below
          have ho6 := ho.keep hb6
          have bw6 := below_call hbel hb6 hbel.size
          obtain ⟨w6, hw6⟩ : ∃ w6, w6 = later wr u := ⟨_, rfl⟩
          rw [show u.w = w6 from hw6.symm] at hb6 ho6 bw6
          rw [← hw6]
          have hl6 : (cuts k 300 L).length ≤ 20 := by rw [cuts_len]; omega
          clear hw6 ho hbel
          go_wp2_with ((at_builtin; go_must (refine ownS_append rfl _ _ rfl w.heap.size u3 (cuts k 300 L) [s.take 300] rfl (ho6.alloc _) w6.heap.size 0 1 rfl (by intro j hj; obtain rfl : j = 0 := (by simpa using hj); exact (arr.new w6 _ _).cell 0 _ (congrArg (fun b => some (Value.string b)) (HEX.out _ HQ2.out))) (by simp; omega) (by have := bw6.size; simp; omega) ?_); intro v7 w7 ho7 hg7))
          go_roundw
          case rel =>
            have hs6 := bw6.size
            refine ⟨k + 1, by omega, by omega, by go_num, ?_, (ho6.alloc _).below (bw6.alloc (by omega) _) hg7 (by simp; omega) (Nat.le_refl _)⟩
            rw [cuts_succ k 300 L hlt, ← HS.out]; exact ho7
          case measure => simp [intOf]; omega
      · obtain rfl : k = 20 := by omega
        go_wp2
        go_ret
        exact ⟨_, rfl, ho, hbel⟩
    · obtain rfl : k = L.length := by omega
      have e : cuts L.length 300 L = cuts 20 300 L := by unfold cuts; rw [List.take_of_length_le (Nat.le_refl _), List.take_of_length_le (by omega)]
      rw [e] at ho
      have HO := hid ho
      clear ho e
      go_wp2
      go_ret
      exact ⟨_, rfl, HO.out, hbel⟩
end Go.Proofs.Ytcfohdkdppiekaa
