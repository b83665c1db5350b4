/- law02's few and works: contracts. -/
import Derived.Test.YtcfohdkdppiekaaWHashD
import Derived.Test.YtcfohdkdppiekaaWCut
namespace Go.Proofs.Ytcfohdkdppiekaa
open Go.RowKit Go.Proofs
set_option maxRecDepth 100000 in
set_option maxHeartbeats 1000000 in
theorem few_any (L : List (List UInt8)) (v : Value) (w : World) (hv : strsAt w w.heap.size v L) : Calls Try.prog 39 #[v] w (GivesS w (cuts 8 200 L)) := by
  obtain ⟨⟨A, c, rfl, hlc, hc, hx⟩, ht⟩ := hv
  have HX := hid hx
  have HT := hid ht
  clear hx ht
  go_enter Try.func39, Try.ntmps39
  go_wp2
  go_loopw [3, 4] (fun u i wr => ∃ k : Nat, k ≤ 8 ∧ k ≤ L.length ∧ i = .int .i64 k ∧ ownS wr w.heap.size u (cuts k 200 L) ∧ Below w.heap.size w wr) (fun _ i _ => 8 - (intOf i).toNat)
  case atStart => exact ⟨0, by omega, by omega, rfl, ownS.nil _ _, Below.refl _ _⟩
  case round =>
    obtain ⟨k, hkn, hkl, rfl, ho, hbel⟩ := hrel
    by_cases hlt : k < L.length
    · by_cases h20 : k < 8
      · obtain ⟨a, rfl, hab, hcell⟩ := HX.out k hlt
        obtain ⟨s, hs⟩ : ∃ s, s = L.getD k [] := ⟨_, rfl⟩
        have hsl : s.length ≤ 9223372036854775807 := by
          rw [hs]
          exact HT.out _ (by rw [List.getD_eq_getElem?_getD, List.getElem?_eq_getElem hlt]; exact List.getElem_mem hlt)
        rw [← hs, ← hbel.cell (by rw [block_add]; exact hab)] at hcell
        have hak : (a.add k).block < wr.heap.size := by rw [block_add]; have := hbel.size; omega
        have HS := hid hs
        have HEX := hid (cut_text s 200)
        have hlt' : (k : Int) < (L.length : Int) := by omega
        have h20' : (k : Int) < 8 := by omega
        clear hs
        obtain ⟨q, hq, hq2, hq3⟩ : ∃ q : Nat, min (s.length : Int) 200 = (q : Int) ∧ (q = 200 ∨ (q = s.length ∧ s.length ≤ 200)) ∧ q ≤ s.length := by
          by_cases h3 : s.length ≤ 200
          · exact ⟨s.length, by omega, Or.inr ⟨rfl, h3⟩, Nat.le_refl _⟩
          · exact ⟨200, by omega, Or.inl rfl, by omega⟩
        have hqa : (if (200 : Int) < (s.length : Int) then (200 : Int) else (s.length : Int)) = (q : Int) := by
          rw [← hq]
          split <;> omega
        have HQ2 := hid hq2
        clear hq2
        all_goals
          go_wp2
          refine wp_region_move_tail 11 (by kernel_rfl) (by kernel_rfl) _ rfl rfl (fun _ _ _ h => h) ?_
          simp only [List.take_succ_cons, List.take_zero, List.drop_succ_cons, List.drop_zero]
          go_frame
          repeat (go_big_quiet_step (fail))
          refine wpQuiet_nil fun u => ?_
          have hb6 := u.below
          have ho6 := ho.keep hb6
          have bw6 := below_call hbel hb6 hbel.size
          obtain ⟨w6, hw6⟩ : ∃ w6, w6 = later wr u := ⟨_, rfl⟩
          rw [show u.w = w6 from hw6.symm] at hb6 ho6 bw6
          rw [← hw6]
          have hl6 : (cuts k 200 L).length ≤ 8 := by rw [cuts_len]; omega
          clear hw6 ho hbel
          go_wp2_with ((at_builtin; go_must (refine ownS_append rfl _ _ rfl w.heap.size u3 (cuts k 200 L) [s.take 200] rfl (ho6.alloc _) w6.heap.size 0 1 rfl (by intro j hj; obtain rfl : j = 0 := (by simpa using hj); exact (arr.new w6 _ _).cell 0 _ (congrArg (fun b => some (Value.string b)) (HEX.out _ HQ2.out))) (by simp; omega) (by have := bw6.size; simp; omega) ?_); intro v7 w7 ho7 hg7))
          go_roundw
          case rel =>
            have hs6 := bw6.size
            refine ⟨k + 1, by omega, by omega, by go_num, ?_, (ho6.alloc _).below (bw6.alloc (by omega) _) hg7 (by simp; omega) (Nat.le_refl _)⟩
            rw [cuts_succ k 200 L hlt, ← HS.out]; exact ho7
          case measure => simp [intOf]; omega
      · obtain rfl : k = 8 := by omega
        go_wp2
        go_ret
        exact ⟨_, rfl, ho, hbel⟩
    · obtain rfl : k = L.length := by omega
      have e : cuts L.length 200 L = cuts 8 200 L := by unfold cuts; rw [List.take_of_length_le (Nat.le_refl _), List.take_of_length_le (by omega)]
      rw [e] at ho
      have HO := hid ho
      clear ho e
      go_wp2
      go_ret
      exact ⟨_, rfl, HO.out, hbel⟩
theorem frm_ab : frm [97] [[98]] = [1, 97, 0, 0, 0, 0, 0, 0, 0, 1, 98] := by decide +kernel
theorem hsh_ab : hsh [97] [[98]] = sha [1, 97, 0, 0, 0, 0, 0, 0, 0, 1, 98] := by
  rw [hsh_ok (by decide)]
  exact congrArg sha (by decide +kernel)
theorem b8_258 : b8 258 = [0, 0, 0, 0, 0, 0, 1, 2] := by decide +kernel
set_option maxRecDepth 100000 in
set_option maxHeartbeats 2000000 in
theorem works2_any (w : World) :
    Calls Try.prog 46 #[] w fun e w' => e = .returned (.bool true) ∧ Below w.heap.size w w' := by
  go_enter Try.func46, Try.ntmps46
  go_wp2_with fail
  refine (hash_any [97] [[98]] _ _ (strsAt.lit' w [[98]] (by simp) (by simp) 9) (by simp) (by simp [fparts, b8_len]) (by simp)).mono ?_
  rintro e w1 ⟨rfl, c1⟩
  have b1 : Below w.heap.size w w1 := ((Below.refl _ _).alloc (Nat.le_refl _) _).trans (c1.mono (by simp))
  rw [hsh_ab]
  clear c1
  go_wp2_with fail
  refine (frame_any [97] [[98]] _ _ (strsAt.lit' w1 [[98]] (by simp) (by simp) 9) (by simp) (by simp [fparts, b8_len]) (by simp)).mono ?_
  rintro e w2 ⟨rfl, c2⟩
  have b2 : Below w.heap.size w w2 := (b1.alloc b1.size _).trans (c2.mono (by have := b1.size; simp; omega))
  rw [frm_ab]
  clear c2 b1
  obtain ⟨Z, hZ⟩ : ∃ Z, Z = sha [1, 97, 0, 0, 0, 0, 0, 0, 0, 1, 98] := ⟨_, rfl⟩
  have hZl : Z.length = 32 := by rw [hZ, sha_len]
  rw [← hZ]
  have HZ := hid hZ
  clear hZ
  go_wp2_with fail
  refine (sum_any [1, 97, 0, 0, 0, 0, 0, 0, 0, 1, 98] (by simp) _).mono ?_
  rintro e w3 ⟨rfl, c3⟩
  have b3 := below_all b2 c3
  rw [← HZ.out]
  clear c3 b2
  go_wp2_with fail
  refine (num_any 258 (by omega) (by omega) _).mono ?_
  rintro e w4 ⟨rfl, c4⟩
  have b4 := below_all b3 c4
  rw [show (258 : Int).toNat = 258 from rfl, b8_258]
  clear c4 b3
  go_wp2
  go_ret
  exact ⟨rfl, b4⟩
end Go.Proofs.Ytcfohdkdppiekaa
