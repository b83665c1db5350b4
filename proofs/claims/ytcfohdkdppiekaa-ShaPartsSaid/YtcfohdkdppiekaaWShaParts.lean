/- The law ShaParts: the walk. -/
import Derived.Test.YtcfohdkdppiekaaWWorks1
import Derived.Test.YtcfohdkdppiekaaWCut
namespace Go.Proofs.Ytcfohdkdppiekaa
open Go.RowKit Go.Proofs
set_option maxRecDepth 100000 in
set_option maxHeartbeats 4000000 in
theorem shaParts_any (L : List (List UInt8)) (v : Value) (w : World) (hv : strsAt w w.heap.size v L) (l : List UInt8) (hl : l.length ≤ 9223372036854775807) :
    Calls Try.prog 6 #[v, .string ⟨l.toArray⟩] w fun e w' => e = .returned (.bool true) ∧ Below w.heap.size w w' := by
  have HV := hid hv
  clear hv
  have HEX := hid (cut_text l 300)
  obtain ⟨p, hp⟩ : ∃ p, p = l.take 300 := ⟨_, rfl⟩
  have hpl : p.length ≤ 300 := by rw [hp, List.length_take]; omega
  rw [← hp] at HEX
  clear hp
  by_cases h3 : l.length ≤ 300
  all_goals
    go_enter Try.func6, Try.ntmps6
    go_wp2_with fail
    refine (works1_any _).mono ?_
    rintro e w0 ⟨rfl, hb0⟩
    go_wp2_with fail
    rw [HEX.out _ (by first | exact Or.inl rfl | exact Or.inr ⟨rfl, h3⟩)]
    refine (new_any _).mono ?_
    rintro e w1 ⟨rfl, hh1, c1, hlt1⟩
    obtain ⟨g, hg⟩ : ∃ g, g = w1.heap.size - 1 := ⟨_, rfl⟩
    rw [← hg] at hh1 ⊢
    have hgl : w.heap.size ≤ g := by have := hb0.size; omega
    have hg1 : g < w1.heap.size := hh1.lt
    have hb1 := below_all hb0 c1
    clear hg hlt1 c1 hb0 HEX h3
    go_wp2_with fail
    refine (new_any _).mono ?_
    rintro e w2 ⟨rfl, hq2, c2, hlt2⟩
    obtain ⟨q, hq⟩ : ∃ q, q = w2.heap.size - 1 := ⟨_, rfl⟩
    rw [← hq] at hq2 ⊢
    have hgq : g < q := by omega
    have hql : w.heap.size ≤ q := by omega
    have hqs : q < w2.heap.size := hq2.lt
    have hh2 := hh1.keep c2
    have hb2 := below_all hb1 c2
    clear hq hlt2 c2 hb1 hh1 hg1
    have HV2 := hid (HV.out.keep' hb2)
    go_wp2_with fail
    refine (cut_any L v _ HV2.out).mono ?_
    rintro e w3 ⟨vm, rfl, hm, c3⟩
    have hh3 := hh2.keep c3
    have hq3 := hq2.keep c3
    have hb3 := below_all hb2 c3
    obtain ⟨B, hB⟩ : ∃ B, B = w2.heap.size := ⟨_, rfl⟩
    rw [← hB] at hm
    have hqB : q < B := by omega
    have hgB : g < B := by omega
    have hBl : B ≤ w3.heap.size := by have := c3.size; omega
    have hneq : g ≠ q := by omega
    have HNE := hid hneq
    clear hB c3 hh2 hq2 hb2 HV2 hqs hneq
    obtain ⟨M, hM⟩ : ∃ M, M = cuts 20 300 L := ⟨_, rfl⟩
    have hMl : M.length ≤ 20 := by rw [hM, cuts_len]; omega
    have hMt : ∀ s ∈ M, s.length ≤ 300 := by rw [hM]; exact cuts_text 20 300 L
    rw [← hM] at hm
    have HMT := hid hMt
    clear hM hMt
    obtain ⟨⟨A, c, rfl, hlc, hc, hx⟩, ht⟩ := hm.strs (fun s hs => by have := HMT.out s hs; omega)
    clear hx ht
    go_wp2
    go_loopw [7, 29] (fun u i wr => ∃ k : Nat, k ≤ M.length ∧ i = .int .i64 k ∧ u = .string ⟨(catN M k).toArray⟩ ∧ isH wr g (catN M k) ∧ isH wr q (catN M k) ∧ ownS wr B (.slice A M.length c) M ∧ Below w.heap.size w wr ∧ B ≤ wr.heap.size) (fun _ i _ => M.length - (intOf i).toNat)
    case atStart => exact ⟨0, by omega, rfl, rfl, hh3, hq3, hm, hb3, hBl⟩
    case round =>
      clear hm hh3 hq3 hb3 hBl
      obtain ⟨k, hk, rfl, rfl, hh, hq, hm, hbel, hBl⟩ := hrel
      obtain ⟨T, hT⟩ : ∃ T, T = catN M k := ⟨_, rfl⟩
      have hTl : T.length ≤ 6000 := by
        have := catN_len M 300 HMT.out k
        rw [hT]
        have h5 : k * 300 ≤ 6000 := by omega
        omega
      rw [← hT] at hh hq ⊢
      by_cases hlt : k < M.length
      · obtain ⟨_, _, hveq, _, _, hx⟩ := (hm.strs (fun s hs => by have := HMT.out s hs; omega)).form
        obtain ⟨rfl, -, rfl⟩ := Value.slice.inj hveq
        obtain ⟨a, rfl, hab, hcell⟩ := hx k hlt
        clear hx hveq
        have HS := hid (catN_succ M k hlt)
        obtain ⟨s, hs⟩ : ∃ s, s = M.getD k [] := ⟨_, rfl⟩
        have hsl : s.length ≤ 300 := by rw [hs]; exact HMT.out _ (getD_mem M k hlt)
        rw [← hs] at hcell HS
        rw [← hT] at HS
        obtain ⟨U, hU⟩ : ∃ U, U = T ++ s := ⟨_, rfl⟩
        have hUl : U.length ≤ 6300 := by rw [hU, List.length_append]; omega
        rw [← hU] at HS
        have HU := hid hU
        have hlt' : (k : Int) < (M.length : Int) := by omega
        have HM := hid hm
        clear hm hs hT hU
        go_wp2_with fail
        refine (write_any T s (by omega) g _ hh).mono ?_
        rintro e w3 ⟨rfl, hh3, hg3⟩
        rw [← HU.out] at hh3
        have hb3 := below_grown hbel hg3 hbel.size hgl
        have hq3 := hq.kept hg3 HNE.out.symm
        have HM3 := hid (HM.out.grown hg3 hgB)
        have hB3 : B ≤ w3.heap.size := Nat.le_trans hBl hg3.size
        clear hh hq hbel hg3 HM hcell hab hBl
        go_wp2_with fail
        refine (write_any T s (by omega) q _ hq3).mono ?_
        rintro e w4 ⟨rfl, hq4, hg4⟩
        rw [← HU.out] at hq4
        have hb4 := below_grown hb3 hg4 hb3.size hql
        have hh4 := hh3.kept hg4 HNE.out
        have HM4 := hid (HM3.out.grown hg4 hqB)
        have hB4 : B ≤ w4.heap.size := Nat.le_trans hB3 hg4.size
        clear hh3 hq3 hb3 hg4 HM3 hB3
        go_wp2_with fail
        rw [str_app, ← HU.out]
        refine (copy_any U g _ hh4).mono ?_
        rintro e w5 ⟨rfl, hc5, c5⟩
        obtain ⟨d, hd⟩ : ∃ d, d = w4.heap.size := ⟨_, rfl⟩
        rw [← hd] at hc5 ⊢
        have hqd : q < d := Nat.lt_of_lt_of_le hqB (by rw [hd]; exact hB4)
        have hgd : g < d := by omega
        have had : a.block < d := by rw [hd]; exact (HM4.out.lt a.block rfl).2
        have hBd : B ≤ d := by rw [hd]; exact hB4
        have hdl : w.heap.size ≤ d := by omega
        have hh5 := hh4.keep c5
        have hq5 := hq4.keep c5
        have hb5 := below_all hb4 c5
        have HM5 := hid (HM4.out.keep c5)
        have hB5 : B ≤ w5.heap.size := Nat.le_trans hB4 c5.size
        have HN1 := hid (show g ≠ d from by omega)
        have HN2 := hid (show q ≠ d from by omega)
        clear hh4 hq4 hb4 c5 HM4 hB4 hd
        go_wp2_with fail
        refine (sumH_any U (by omega) d _ hc5).mono ?_
        rintro e w6 ⟨rfl, c6⟩
        have hh6 := hh5.keep c6
        have hq6 := hq5.keep c6
        have hc6 := hc5.keep c6
        have hb6 := below_all hb5 c6
        have HM6 := hid (HM5.out.keep c6)
        have hB6 : B ≤ w6.heap.size := Nat.le_trans hB5 c6.size
        clear hh5 hq5 hb5 c6 HM5 hB5 hc5
        go_wp2_with fail
        refine (sum_any U (by omega) _).mono ?_
        rintro e w7 ⟨rfl, c7⟩
        have hh7 := hh6.keep c7
        have hq7 := hq6.keep c7
        have hc7 := hc6.keep c7
        have hb7 := below_all hb6 c7
        have HM7 := hid (HM6.out.keep c7)
        have hB7 : B ≤ w7.heap.size := Nat.le_trans hB6 c7.size
        clear hh6 hq6 hb6 c7 HM6 hB6 hc6
        go_wp2_with fail
        refine (len_any U d _ hc7).mono ?_
        rintro e wx ⟨rfl, hwx⟩
        subst hwx
        go_wp2_with fail
        refine (len_any U g _ hh7).mono ?_
        rintro e wx ⟨rfl, hwx⟩
        subst hwx
        go_wp2_with fail
        refine (write_any U p (by omega) d _ hc7).mono ?_
        rintro e w8 ⟨rfl, hc8, hg8⟩
        have hb8 := below_grown hb7 hg8 hb7.size hdl
        have hh8 := hh7.kept hg8 HN1.out
        have hq8 := hq7.kept hg8 HN2.out
        have HM8 := hid (show ownS w8 B _ M from by
          refine World.ownsRow.kept HM7.out hg8 (Or.inr fun e => ?_)
          have : a.block = d := by simpa [Value.ownBlock] using e
          omega)
        have hB8 : B ≤ w8.heap.size := Nat.le_trans hB7 hg8.size
        clear hh7 hq7 hb7 hg8 HM7 hB7 hc7
        go_wp2_with fail
        refine (sumH_any (U ++ p) (by simp; omega) d _ hc8).mono ?_
        rintro e w9 ⟨rfl, c9⟩
        have hh9 := hh8.keep c9
        have hq9 := hq8.keep c9
        have hb9 := below_all hb8 c9
        have HM9 := hid (HM8.out.keep c9)
        have hB9 : B ≤ w9.heap.size := Nat.le_trans hB8 c9.size
        clear hh8 hq8 hb8 c9 HM8 hB8 hc8
        go_wp2_with fail
        rw [str_app]
        refine (sum_any (U ++ p) (by simp; omega) _).mono ?_
        rintro e wa ⟨rfl, ca⟩
        have hha := hh9.keep ca
        have hqa := hq9.keep ca
        have hba := below_all hb9 ca
        have HMa := hid (HM9.out.keep ca)
        have hBa : B ≤ wa.heap.size := Nat.le_trans hB9 ca.size
        clear hh9 hq9 hb9 ca HM9 hB9
        go_wp2_with fail
        refine (sumH_any U (by omega) g _ hha).mono ?_
        rintro e wb ⟨rfl, cb⟩
        have hhb := hha.keep cb
        have hqb := hqa.keep cb
        have hbb := below_all hba cb
        have HMb := hid (HMa.out.keep cb)
        have hBb : B ≤ wb.heap.size := Nat.le_trans hBa cb.size
        clear hha hqa hba cb HMa hBa
        go_wp2_with fail
        refine (sum_any U (by omega) _).mono ?_
        rintro e wc ⟨rfl, cc⟩
        have hhc := hhb.keep cc
        have hqc := hqb.keep cc
        have hbc := below_all hbb cc
        have HMc := hid (HMb.out.keep cc)
        have hBc : B ≤ wc.heap.size := Nat.le_trans hBb cc.size
        clear hhb hqb hbb cc HMb hBb
        go_wp2_with fail
        refine (len_any U g _ hhc).mono ?_
        rintro e wx ⟨rfl, hwx⟩
        subst hwx
        go_wp2
        go_roundw
        case rel =>
          exact ⟨k + 1, by omega, by go_num, by rw [HS.out], by rw [HS.out]; exact hhc, by rw [HS.out]; exact hqc, HMc.out, hbc, hBc⟩
        case measure => simp [intOf]; omega
      · have hk2 : k = M.length := by omega
        clear hm hT
        subst hk2
        go_wp2_with fail
        refine (sumH_any T (by omega) g _ hh).mono ?_
        rintro e w4 ⟨rfl, c4⟩
        have hb4 := below_all hbel c4
        have hh4 := hh.keep c4
        have hq4 := hq.keep c4
        clear hh hq hbel c4 hBl
        go_wp2_with fail
        refine (sum_any T (by omega) _).mono ?_
        rintro e w5 ⟨rfl, c5⟩
        have hb5 := below_all hb4 c5
        have hh5 := hh4.keep c5
        have hq5 := hq4.keep c5
        clear hb4 c5 hh4 hq4
        go_wp2_with fail
        refine (sumH_any T (by omega) q _ hq5).mono ?_
        rintro e w6 ⟨rfl, c6⟩
        have hb6 := below_all hb5 c6
        have hh6 := hh5.keep c6
        have hq6 := hq5.keep c6
        clear hb5 c6 hh5 hq5
        go_wp2_with fail
        refine (sumH_any T (by omega) g _ hh6).mono ?_
        rintro e w7 ⟨rfl, c7⟩
        have hb7 := below_all hb6 c7
        have hh7 := hh6.keep c7
        have hq7 := hq6.keep c7
        clear hb6 c7 hh6 hq6
        go_wp2_with fail
        refine (len_any T q _ hq7).mono ?_
        rintro e wx ⟨rfl, hwx⟩
        subst hwx
        go_wp2_with fail
        refine (len_any T g _ hh7).mono ?_
        rintro e wx ⟨rfl, hwx⟩
        subst hwx
        go_wp2
        go_ret
        exact ⟨rfl, hb7⟩
end Go.Proofs.Ytcfohdkdppiekaa
