/- The law DomApart: the walk. -/
import Derived.Test.YtcfohdkdppiekaaWTaken
import Derived.Test.YtcfohdkdppiekaaAppS
import Derived.Test.YtcfohdkdppiekaaWShaBytes
import Derived.Test.YtcfohdkdppiekaaWDomHashes
namespace Go.Proofs.Ytcfohdkdppiekaa
open Go.RowKit Go.Proofs
theorem two_first (M : List (List UInt8)) (h : 2 ≤ M.length) : M = M.getD 0 [] :: M.getD 1 [] :: M.drop 2 := by
  match M, h with
  | x :: y :: r, _ => rfl
set_option maxRecDepth 100000 in
set_option maxHeartbeats 4000000 in
theorem domApart_any (tag : List UInt8) (htl : tag.length ≤ 9223372036854775807) (L : List (List UInt8)) (v : Value) (w : World) (hv : strsAt w w.heap.size v L) (n : Int) (hn : 0 ≤ n ∧ n ≤ 255) :
    Calls Try.prog 8 #[.string ⟨tag.toArray⟩, v, .int .u8 n] w fun e w' => e = .returned (.bool true) ∧ Below w.heap.size w w' := by
  have HV := hid hv
  clear hv
  obtain ⟨q, hq, hqb, hqc⟩ : ∃ q : Nat, min (tag.length : Int) 16 = (q : Int) ∧ (q = 16 ∨ (q = tag.length ∧ tag.length ≤ 16)) ∧ q ≤ tag.length := by
    by_cases h3 : tag.length ≤ 16
    · exact ⟨tag.length, by omega, Or.inr ⟨rfl, h3⟩, Nat.le_refl _⟩
    · exact ⟨16, by omega, Or.inl rfl, by omega⟩
  have hqa : (if (16 : Int) < (tag.length : Int) then (16 : Int) else (tag.length : Int)) = (q : Int) := by
    rw [← hq]
    split <;> omega
  have HqB := hid hqb
  clear hqb
  obtain ⟨p, hp⟩ : ∃ p, p = tag.take 16 := ⟨_, rfl⟩
  have hpl : p.length ≤ 16 := by rw [hp, List.length_take]; omega
  have HEX := hid (cut_text tag 16 q HqB.out)
  rw [← hp] at HEX
  clear hp
  go_enter Try.func8, Try.ntmps8
  go_wp2_with fail
  refine (works2_any _).mono ?_
  rintro e w0 ⟨rfl, b0⟩
  have HV0 := hid (HV.out.keep' b0)
  go_wp2_with fail
  rw [HEX.out]
  refine (few_any L v _ HV0.out).mono ?_
  rintro e w1 ⟨vl, rfl, hm, c1⟩
  have b1 := below_all b0 c1
  clear b0 c1 HV HV0
  obtain ⟨M, hM⟩ : ∃ M, M = cuts 8 200 L := ⟨_, rfl⟩
  have hb := cuts_bound L
  have hMl : M.length ≤ 8 := by rw [hM, cuts_len]; omega
  rw [← hM] at hm hb
  obtain ⟨hf, ht⟩ := hb
  have HS1 := hid (hm.strs (fun s hs => by have := ht s hs; omega))
  have HT := hid (fun s hs => (Nat.le_trans (ht s hs) (by decide) : s.length ≤ 100000000000))
  have HT2 := hid ht
  clear hM hm ht
  go_wp2_with fail
  refine (frame_any p M vl _ HS1.out (by omega) (by omega) HT.out).mono ?_
  rintro e w2 ⟨rfl, c2⟩
  have b2 := below_all b1 c2
  have HS2 := hid (HS1.out.keep' c2)
  clear b1 c2 HS1
  by_cases hok : okTag p
  · rw [frm_ok hok]
    obtain ⟨F, hF⟩ : ∃ F, F = frm0 p M := ⟨_, rfl⟩
    have hFl : F.length ≤ 2000 := by rw [hF, frm0_len]; omega
    have hpe : p.isEmpty = false := by
      have := hok.1
      cases p with
      | nil => simp at this
      | cons _ _ => rfl
    rw [← hF]
    have HF := hid hF
    have HOK := hid hok
    clear hF hok
    go_wp2_with fail
    rw [HF.out]
    refine (taken_any p M HOK.out (by omega) (fun s hs => Nat.le_trans (HT2.out s hs) (by decide)) _).mono ?_
    rw [← HF.out]
    rintro e w3 ⟨vm, rfl, hm, c3⟩
    have b3 := below_all b2 c3
    have HS3 := hid (HS2.out.keep' c3)
    have HM3 := hid (hm.strs (fun s hs => by have := HT2.out s hs; omega))
    clear b2 c3 HS2 hm
    obtain ⟨⟨A, c, rfl, hlc, hc, hx⟩, -⟩ := HS3.out
    obtain ⟨⟨A2, c2, rfl, hlc2, hc2, hx2⟩, -⟩ := HM3.out
    clear hx hx2
    go_wp2
    go_loopw [11] (fun i wr => ∃ k : Nat, k ≤ M.length ∧ i = .int .i64 k ∧ strsAt wr wr.heap.size (.slice A M.length c) M ∧ strsAt wr wr.heap.size (.slice A2 M.length c2) M ∧ Below w.heap.size w wr) (fun i _ => M.length - (intOf i).toNat)
    case atStart => exact ⟨0, by omega, rfl, HS3.out, HM3.out, b3⟩
    case round =>
      clear b3 HS3 HM3
      obtain ⟨k, hk, rfl, s1, s2, hb⟩ := hrel
      have S1 := hid s1
      have S2 := hid s2
      clear s1 s2
      by_cases hlt : k < M.length
      · obtain ⟨_, _, e1, _, _, x1⟩ := S1.out.form
        obtain ⟨rfl, -, -⟩ := Value.slice.inj e1
        obtain ⟨_, _, e2, _, _, x2⟩ := S2.out.form
        obtain ⟨rfl, -, -⟩ := Value.slice.inj e2
        obtain ⟨a, rfl, hab, hc1⟩ := x1 k hlt
        obtain ⟨a2, rfl, hab2, hc2'⟩ := x2 k hlt
        rw [← block_add a k] at hab
        rw [← block_add a2 k] at hab2
        have hlt' : (k : Int) < (M.length : Int) := by omega
        obtain ⟨s, hs⟩ : ∃ s, s = M.getD k [] := ⟨_, rfl⟩
        rw [← hs] at hc1 hc2'
        clear e1 e2 x1 x2 hs
        go_wp2
        refine wp_region_later_lit (by kernel_rfl) (by kernel_rfl) ?_
        repeat (go_big_quiet_step (fail))
        refine wpQuiet_nil fun w' hw' => ?_
        obtain ⟨u, rfl⟩ := hw'
        have hb6 := u.below
        have b6 := below_all hb hb6
        have S16 := hid (S1.out.keep' hb6)
        have S26 := hid (S2.out.keep' hb6)
        clear hc1 hc2' hab hab2 hb S1 S2
        go_wp2
        go_roundw
        case rel => exact ⟨k + 1, by omega, by go_num, S16.out, S26.out, b6⟩
        case measure => simp [intOf]; omega
      · obtain rfl : k = M.length := by omega
        go_wp2_with fail
        refine (hash_any p M _ _ S1.out (by omega) (by omega) HT.out).mono ?_
        rintro e w4 ⟨rfl, c4⟩
        rw [hsh_ok HOK.out, ← HF.out]
        have b4 := below_all hb c4
        have S14 := hid (S1.out.keep' c4)
        clear hb c4 S1 S2
        go_wp2_with fail
        refine (sum_any F (by omega) _).mono ?_
        rintro e w5 ⟨rfl, c5⟩
        have b5 := below_all b4 c5
        have S15 := hid (S14.out.keep' c5)
        clear b4 c5 S14
        by_cases h2 : M.length < 2
        · have h2' : (M.length : Int) < 2 := by omega
          have hs5 := b5.size
          have R1 := hid (ownS.lit w5 w.heap.size [] b5.size (by simp))
          have R2 := hid (S15.out.keep ((Below.refl w5.heap.size w5).alloc (Nat.le_refl _) (.cells (scs []).toArray 9 (0, 0))))
          have hMl2 : M.length ≤ 8 := hMl
          go_wp2_with ((at_builtin; refine wpList_appendS rfl (.tmp 82) (.tmp 83) rfl w.heap.size _ _ [] M rfl R1.out _ rfl R2.out ?_ ?_ ?_))
          · simp; omega
          · simp; omega
          intro v7 w7 ho7 hg7
          have b7 : Below w.heap.size w w7 := R1.out.below (b5.alloc b5.size _) hg7 (by simp; omega) (Nat.le_refl _)
          have hs7 := b7.size
          have HO7 := hid (ho7.alloc (.cells (scs [[]]).toArray 9 (0, 0)))
          have R3 := hid (strsAt.lit' w7 [[]] (by simp) (by simp) 9)
          clear ho7 hg7 R1 R2 b5
          go_wp2_with ((at_builtin; refine wpList_appendS rfl (.tmp 84) (.tmp 85) rfl w.heap.size _ _ _ [[]] rfl HO7.out _ rfl R3.out ?_ ?_ ?_))
          · simp; omega
          · simp; omega
          intro v8 w8 ho8 hg8
          have b8' : Below w.heap.size w w8 := HO7.out.below (b7.alloc b7.size _) hg8 (by simp; omega) (Nat.le_refl _)
          have ht8 : ∀ s ∈ M ++ [[]], s.length ≤ 200 := by
            intro s hs
            rcases List.mem_append.1 hs with h | h
            · exact HT2.out s h
            · rw [List.mem_singleton.1 h]; exact Nat.zero_le _
          have S8 := hid (ho8.strs (fun s hs => by have := ht8 s hs; omega))
          have hfl : (fparts (M ++ [[]])).length ≤ 100000 := by rw [fparts_app, List.length_append]; simp [fparts, b8_len]; simp [fparts] at hf; omega
          have HT8 := hid (fun s hs => (Nat.le_trans (ht8 s hs) (by decide) : s.length ≤ 100000000000))
          have hne : frm0 p (M ++ [[]]) ≠ F := by
            rw [HF.out]
            intro e
            have := congrArg List.length e
            rw [frm0_len, frm0_len, fparts_app, List.length_append] at this
            simp [fparts, b8_len] at this
          obtain ⟨G, hG⟩ : ∃ G, G = frm0 p (M ++ [[]]) := ⟨_, rfl⟩
          rw [← hG] at hne
          have hGF : (G == F) = false := by rw [beq_eq_false_iff_ne]; exact hne
          have HG := hid hG
          clear HO7 R3 b7 ho8 hg8 ht8 hG
          go_wp2_with fail
          refine (frame_any p (M ++ [[]]) v8 _ S8.out (by omega) (by omega) HT8.out).mono ?_
          rintro e w9 ⟨rfl, c9⟩
          rw [frm_ok HOK.out, ← HG.out]
          have b9 := below_all b8' c9
          clear b8' c9 S8
          go_wp2
          go_ret
          exact ⟨rfl, b9⟩
        · have h2' : ¬ (M.length : Int) < 2 := by omega
          have S15h := S15.out
          obtain ⟨_, _, e1, _, _, x1⟩ := S15.out.form
          obtain ⟨rfl, -, -⟩ := Value.slice.inj e1
          obtain ⟨a, rfl, hab, hcell0⟩ := x1 0 (by omega)
          obtain ⟨a', e2, -, hcell1⟩ := x1 1 (by omega)
          injection e2 with e2
          subst e2
          obtain ⟨l0, hl0⟩ : ∃ s, s = M.getD 0 [] := ⟨_, rfl⟩
          obtain ⟨l1, hl1⟩ : ∃ s, s = M.getD 1 [] := ⟨_, rfl⟩
          rw [← hl0] at hcell0
          rw [← hl1] at hcell1
          have hb0 : l0.length ≤ 200 := by rw [hl0]; exact HT2.out _ (getD_mem M 0 (by omega))
          have hb1 : l1.length ≤ 200 := by rw [hl1]; exact HT2.out _ (getD_mem M 1 (by omega))
          have hMM : M = l0 :: l1 :: M.drop 2 := by
            rw [hl0, hl1]; exact two_first M (by omega)
          have HMM := hid hMM
          have hadd : a.add 0 = a := rfl
          rw [hadd] at hcell0
          have hab1 : a.block < w5.heap.size := hab
          obtain ⟨ab, ao, asp⟩ := a
          have hcell1' : w5.cell? ⟨ab, ao + 1, none⟩ = some (.string ⟨l1.toArray⟩) := hcell1
          have hab2 : ab < w5.heap.size := hab
          clear hcell1
          obtain ⟨T, hT⟩ : ∃ T, T = l0 ++ l1 := ⟨_, rfl⟩
          have hTl : T.length = l0.length + l1.length := by rw [hT, List.length_append]
          have hcat : (⟨l0.toArray⟩ : ByteArray) ++ ⟨l1.toArray⟩ = ⟨T.toArray⟩ := by rw [hT]; exact str_app _ _
          have hTb : (T.length : Int) ≤ 400 := by omega
          have HTL := hid hTl
          have HT0 := hid hT
          have hMi : (2 : Int) ≤ (M.length : Int) := by omega
          clear e1 x1 hl0 hl1 hMM hadd hT hTl S15h
          go_wp2_with fail
          refine wp_region_later_lit (by kernel_rfl) (by kernel_rfl) ?_
          repeat (go_big_quiet_step (fail))
          refine wpQuiet_nil fun w' hw' => ?_
          obtain ⟨u, rfl⟩ := hw'
          have hb6 := u.below
          have b6 := below_all b5 hb6
          have S6 := hid (S15.out.keep' hb6)
          obtain ⟨w6, hw6⟩ : ∃ w6, w6 = later w5 u := ⟨_, rfl⟩
          rw [show u.w = w6 from hw6.symm] at b6
          have S6' := hid (show strsAt w6 w6.heap.size (.slice (some ⟨ab, ao, asp⟩) M.length c) M from by rw [hw6]; exact S6.out)
          rw [← hw6]
          obtain ⟨kk, hkk⟩ : ∃ kk : Nat, n % ((T.length : Int) + 1) = (kk : Int) := ⟨(n % ((T.length : Int) + 1)).toNat, by rw [Int.toNat_of_nonneg (Int.emod_nonneg _ (by omega))]⟩
          have hkT : (kk : Int) ≤ (T.length : Int) := by rw [← hkk]; have := Int.emod_lt_of_pos n (show (0 : Int) < (T.length : Int) + 1 by omega); omega
          clear hcell0 hcell1' hab hab1 hab2 b5 S15 S6 hw6 hb6 hcat
          go_wp2
          rw [hkk]
          have x1 := text_to T kk
          have x2 := text_drop T kk
          have hkT' : kk ≤ T.length := by omega
          clear hkk
          have HO := hid (show ownS (w6.alloc (.cells #[.string ⟨(T.take kk).toArray⟩, .string ⟨(T.drop kk).toArray⟩] 9)).drew w.heap.size (.slice (some ⟨w6.heap.size, 0, none⟩) 2 2) [T.take kk, T.drop kk] from ownS.lit w6 w.heap.size [T.take kk, T.drop kk] b6.size (by simp))
          have HS := hid (show strsAt (w6.alloc (.cells #[.string ⟨(T.take kk).toArray⟩, .string ⟨(T.drop kk).toArray⟩] 9)).drew w6.heap.size (.slice (if c = 2 then some ⟨ab, ao, asp⟩ else some ⟨ab, ao + 2, none⟩) (M.length - 2) (c - 2)) (M.drop 2) from (S6'.out.cut 2 (by omega)).keep (((Below.refl w6.heap.size w6).alloc (Nat.le_refl _) _).drew))
          have hs6 := b6.size
          have hlen1 : [T.take kk, T.drop kk].length + (M.drop 2).length ≤ 1000000000000 := by simp; omega
          have HLEN := hid hlen1
          clear hlen1
          go_region_law (refine step_appendS rfl (.tmp 109) (.tmp 111) rfl w.heap.size (.slice (some ⟨w6.heap.size, 0, none⟩) 2 2) (.slice (if c = 2 then some ⟨ab, ao, asp⟩ else some ⟨ab, ao + 2, none⟩) (M.length - 2) (c - 2)) [T.take kk, T.drop kk] (M.drop 2) (by simp [Act.eval, Act.put]) HO.out w6.heap.size (by simp [Act.eval, Act.put]) HS.out HLEN.out (by simp; omega) ?_; intro v7 w7 ho7 hg7)
          have b67 : Below w6.heap.size w6 w7 := (((Below.refl w6.heap.size w6).alloc (Nat.le_refl _) _).drew).grown hg7 (by simp) (fun j hj => by simp [Value.ownBlock] at hj; omega)
          have b7 : Below w.heap.size w w7 := below_all b6 b67
          obtain ⟨O, hO⟩ : ∃ O, O = [T.take kk, T.drop kk] ++ M.drop 2 := ⟨_, rfl⟩
          rw [← hO] at ho7
          have hOl : O.length ≤ 8 := by rw [hO, List.length_append, List.length_drop]; simp; omega
          have hOt : ∀ s ∈ O, s.length ≤ 400 := by
            intro s hs
            rw [hO] at hs
            rcases List.mem_append.1 hs with h | h
            · simp only [List.mem_cons, List.not_mem_nil, or_false] at h
              rcases h with rfl | rfl
              · rw [List.length_take]; omega
              · rw [List.length_drop]; omega
            · have := HT2.out s (List.mem_of_mem_drop h); omega
          have hOf : (fparts O).length ≤ 10000 := by have := fparts_len O 400 hOt; omega
          have S7 := hid (ho7.strs (fun s hs => by have := hOt s hs; omega))
          have S7M := hid (S6'.out.keep' b67)
          have HFR := hid (fun u : Later w7 => frame_any p O v7 (later w7 u) (S7.out.keep' u.below) (by omega) (by omega) (fun s hs => (Nat.le_trans (hOt s hs) (by decide) : s.length ≤ 100000000000)))
          rw [frm_ok HOK.out] at HFR
          obtain ⟨G, hG⟩ : ∃ G, G = frm0 p O := ⟨_, rfl⟩
          rw [← hG] at HFR
          have hcase : (kk = l0.length ∧ G = F) ∨ (((kk : Int) == (l0.length : Int)) = false ∧ (G == F) = false ∧ ¬ G = F) := by
            by_cases h : kk = l0.length
            · refine Or.inl ⟨h, ?_⟩
              have e : O = M := by rw [hO, HMM.out, HT0.out, h]; simp
              rw [hG, HF.out, e]
            · refine Or.inr ⟨by rw [beq_eq_false_iff_ne]; omega, ?_⟩
              have hne : ¬ G = F := by
                rw [hG, HF.out]
                intro e
                have e2 := (frm0_inj (by omega) (by omega) (fun s hs => by have := hOt s hs; omega) (fun s hs => by have := HT2.out s hs; omega) e).2
                rw [hO, HMM.out] at e2
                injection e2 with e2 e3
                have := congrArg List.length e2
                rw [List.length_take] at this
                omega
              exact ⟨by rw [beq_eq_false_iff_ne]; exact hne, hne⟩
          obtain ⟨_, _, e1, _, _, x7⟩ := S7M.out.form
          obtain ⟨rfl, -, -⟩ := Value.slice.inj e1
          obtain ⟨a7, e7, hab7, hc7⟩ := x7 0 (by omega)
          injection e7 with e7
          subst e7
          have hc7' : w7.cell? ⟨ab, ao, asp⟩ = some (.string ⟨l0.toArray⟩) := by
            have hg : M.getD 0 [] = l0 := by rw [HMM.out]; rfl
            rw [← hg]; exact hc7
          have hab7' : ab < w7.heap.size := hab7
          clear hc7 x7 e1 ho7 hg7 b67 HO HS HLEN S7 S7M S6' b6 x1 x2 hO hOt hG
          rcases hcase with ⟨rfl, rfl⟩ | ⟨k1, k2, k3⟩
          all_goals go_wp2
          all_goals
            refine wp_region_later_lit (by kernel_rfl) (by kernel_rfl) ?_
            repeat (go_big_quiet_step ((go_at_call 40; exact later_call (HFR.out _))))
            refine wpQuiet_nil fun w' hw' => ?_
            obtain ⟨u, rfl⟩ := hw'
            have b8' := below_all b7 u.below
            clear b7 HFR
            go_wp2
            go_ret
            exact ⟨rfl, b8'⟩
  · have hp0 : p = [] := by
      unfold okTag at hok
      exact List.eq_nil_of_length_eq_zero (by omega)
    subst hp0
    rw [frm_no hok]
    go_wp2_with fail
    refine (hash_any [] M vl _ HS2.out (by decide) (by omega) HT.out).mono ?_
    rintro e w3 ⟨rfl, c3⟩
    rw [hsh_no hok]
    have b3 := below_all b2 c3
    clear b2 c3
    go_wp2
    go_ret
    exact ⟨rfl, b3⟩
end Go.Proofs.Ytcfohdkdppiekaa
