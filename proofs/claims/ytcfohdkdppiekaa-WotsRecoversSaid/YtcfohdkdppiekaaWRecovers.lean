/- WotsRecovers: the walk. -/
import Derived.Test.YtcfohdkdppiekaaWWorks13
namespace Go.Proofs.Ytcfohdkdppiekaa
open Go Go.RowKit Go.Proofs
attribute [local go_sem] Oper.semAt_some
theorem take_take_min (s : List UInt8) : (s.take 32).length = min s.length 32 := by rw [List.length_take, Nat.min_comm]
theorem padz_nil : padz [] = List.replicate 32 0 := rfl
set_option maxRecDepth 100000 in
set_option maxHeartbeats 1000000 in
theorem recovers_any (L : List (List UInt8)) (vl : Value) {w : World} (hv : strsAt w w.heap.size vl L) (d : List UInt8) (hd : d.length ≤ 9223372036854775807) :
    Calls Try.prog 18 #[vl, .string ⟨d.toArray⟩] w fun e w' => e = .returned (.bool true) ∧ Below w.heap.size w w' := by
  obtain ⟨⟨A, c, rfl, hlc, hc, hx⟩, ht⟩ := hv
  have HX := hid hx
  have HT := hid ht
  clear hx ht
  obtain ⟨r, hr, hrb, hrc⟩ : ∃ q : Nat, min (d.length : Int) 40 = (q : Int) ∧ (q = 40 ∨ (q = d.length ∧ d.length ≤ 40)) ∧ q ≤ d.length := by
    by_cases h3 : d.length ≤ 40
    · exact ⟨d.length, by omega, Or.inr ⟨rfl, h3⟩, Nat.le_refl _⟩
    · exact ⟨40, by omega, Or.inl rfl, by omega⟩
  have hra : (if (40 : Int) < (d.length : Int) then (40 : Int) else (d.length : Int)) = (r : Int) := by
    rw [← hr]
    split <;> omega
  have HrB := hid hrb
  clear hrb
  have hcut2 := cut_text d 40 r HrB.out
  obtain ⟨dd, hdd⟩ : ∃ p, p = d.take 40 := ⟨_, rfl⟩
  have hddl : dd.length ≤ 9223372036854775807 := by rw [hdd, List.length_take]; omega
  rw [← hdd] at hcut2
  have HDL := hid hddl
  clear hdd hddl
  go_enter Try.func18, Try.ntmps18
  go_wp2
  go_loopw [5, 7] (fun u i wr => ∃ k : Nat, k ≤ 70 ∧ k ≤ L.length ∧ i = .int .i64 k ∧ ownS wr w.heap.size u (cuts k 40 L) ∧ Below w.heap.size w wr) (fun _ i _ => 70 - (intOf i).toNat)
  case atStart => exact ⟨0, by omega, by omega, rfl, ownS.nil _ _, Below.refl _ _⟩
  case round =>
    obtain ⟨k, hk70, hkl, rfl, ho, hbel⟩ := hrel
    have HO := hid ho
    have HB := hid hbel
    clear ho hbel
    by_cases hgo : k < L.length ∧ k < 70
    · obtain ⟨hlt, h70⟩ := hgo
      obtain ⟨a, rfl, hab, hcell⟩ := HX.out k hlt
      have hlt' : (k : Int) < (L.length : Int) := by omega
      have h70' : (k : Int) < 70 := by omega
      obtain ⟨s, hs⟩ : ∃ s, s = L.getD k [] := ⟨_, rfl⟩
      have hsl : s.length ≤ 9223372036854775807 := by
        rw [hs]
        exact HT.out _ (by rw [List.getD_eq_getElem?_getD, List.getElem?_eq_getElem hlt]; exact List.getElem_mem hlt)
      rw [← hs, ← HB.out.cell (by rw [block_add]; exact hab)] at hcell
      have hak : (a.add k).block < wr.heap.size := by rw [block_add]; have := HB.out.size; omega
      have HS := hid hs
      obtain ⟨q, hq, hqb, hqc⟩ : ∃ q : Nat, min (s.length : Int) 40 = (q : Int) ∧ (q = 40 ∨ (q = s.length ∧ s.length ≤ 40)) ∧ q ≤ s.length := by
        by_cases h3 : s.length ≤ 40
        · exact ⟨s.length, by omega, Or.inr ⟨rfl, h3⟩, Nat.le_refl _⟩
        · exact ⟨40, by omega, Or.inl rfl, by omega⟩
      have hqa : (if (40 : Int) < (s.length : Int) then (40 : Int) else (s.length : Int)) = (q : Int) := by
        rw [← hq]
        split <;> omega
      have HqB := hid hqb
      clear hqb
      have hcut := cut_text s 40 q HqB.out
      obtain ⟨y, hy⟩ : ∃ y, y = s.take 40 := ⟨_, rfl⟩
      rw [← hy] at hcut
      have HY := hid hy
      clear hs hy
      go_wp2_with fail
      have O0 := hid (row_below HO.out (Below.refl wr.heap.size wr).drew)
      have B0 := hid (below_all HB.out (Below.refl wr.heap.size wr).drew)
      refine wp_region_sq (fun W' => W'.cell? (a.add k) = some (.string ⟨s.toArray⟩) ∧ (a.add k).block < W'.heap.size) [(true, 0), (true, 1), (true, 2), (true, 3), (true, 4), (true, 5), (true, 6), (true, 7), (true, 8), (true, 9), (true, 10), (true, 11), (false, 12)] 13 rfl (by kernel_rfl) (by kernel_rfl) (by kernel_rfl) (by decide) rfl (by kernel_rfl) ⟨hcell, hak⟩ ?_
      have hcd : wr.drew.cell? (a.add k) = some (.string ⟨s.toArray⟩) := hcell
      have hld : (a.add k).block < wr.drew.heap.size := hak
      have HCD := hid hcd
      have HLD := hid hld
      clear hcell hak hcd hld HO HB
      generalize World.drew wr = w2 at O0 B0 HCD HLD ⊢
      refine sq_soft rfl (by kernel_rfl) (fun W hW => (by obtain ⟨hW1, hW2⟩ := hW; go_simp; try rfl)) ?_; go_frame
      refine sq_soft rfl (by kernel_rfl) (fun W hW => (by obtain ⟨hW1, hW2⟩ := hW; go_simp; try rfl)) ?_; go_frame
      refine sq_soft rfl (by kernel_rfl) (fun W hW => (by obtain ⟨hW1, hW2⟩ := hW; go_simp; try rfl)) ?_; go_frame
      refine sq_soft rfl (by kernel_rfl) (fun W hW => (by obtain ⟨hW1, hW2⟩ := hW; go_simp; try rfl)) ?_; go_frame
      refine sq_soft rfl (by kernel_rfl) (fun W hW => (by obtain ⟨hW1, hW2⟩ := hW; go_simp; try rfl)) ?_; go_frame
      refine sq_soft rfl (by kernel_rfl) (fun W hW => (by obtain ⟨hW1, hW2⟩ := hW; go_simp; try rfl)) ?_; go_frame
      refine sq_soft rfl (by kernel_rfl) (fun W hW => (by obtain ⟨hW1, hW2⟩ := hW; go_simp; try rfl)) ?_; go_frame
      refine sq_soft rfl (by kernel_rfl) (fun W hW => (by obtain ⟨hW1, hW2⟩ := hW; go_simp; try rfl)) ?_; go_frame
      refine sq_soft rfl (by kernel_rfl) (fun W hW => (by obtain ⟨hW1, hW2⟩ := hW; go_simp; try rfl)) ?_; go_frame
      refine sq_soft rfl (by kernel_rfl) (fun W hW => (by obtain ⟨hW1, hW2⟩ := hW; go_simp; try rfl)) ?_; go_frame
      refine sq_soft rfl (by kernel_rfl) (fun W hW => (by obtain ⟨hW1, hW2⟩ := hW; go_simp; try rfl)) ?_; go_frame
      refine sq_soft rfl (by kernel_rfl) (fun W hW => (by obtain ⟨hW1, hW2⟩ := hW; go_simp; try rfl)) ?_; go_frame
      refine sq_op rfl (by kernel_rfl) ?_
      go_simp
      obtain ⟨w5, hw5⟩ : ∃ w5, w5 = w2.alloc (.cells #[.string ⟨y.toArray⟩] 9) := ⟨_, rfl⟩
      have hal : Below w2.heap.size w2 w5 := by rw [hw5]; exact (Below.refl _ _).alloc (Nat.le_refl _) _
      have O5 := hid (row_below O0.out hal)
      have B5 := hid (below_all B0.out hal)
      have N5 := hid (show arr w5 w2.heap.size 9 (scs [y]) by rw [hw5]; exact arr.new w2 _ _)
      have hsz5 : w2.heap.size + 1 = w5.heap.size := by rw [hw5]; simp
      rw [← hw5]
      try rw [hsz5]
      refine ⟨⟨(hal.cell HLD.out).trans HCD.out, Nat.lt_of_lt_of_le HLD.out hal.size⟩, ?_⟩
      clear hal hw5 hsz5 O0 B0 HCD HLD
      try go_frame
      refine sched_done ?_
      have hcl : (cuts k 40 L).length ≤ 70 := by rw [cuts_len]; omega
      go_wp2_with ((at_builtin; go_must (refine ownS_append rfl _ _ rfl w.heap.size _ (cuts k 40 L) [y] rfl O5.out w2.heap.size 0 1 rfl (by intro j hj; rw [Nat.zero_add]; exact N5.out.cell j _ (scs_get _ _ hj)) (by simp; omega) B5.out.size ?_); intro v7 w7 ho7 hg7; have O7 := hid ho7; have G7 := hid hg7; clear ho7 hg7))
      go_roundw
      case rel => exact ⟨k + 1, by omega, by omega, by go_num, by rw [cuts_succ k 40 L hlt, ← HS.out, ← HY.out]; exact O7.out, B5.out.grown G7.out B5.out.size (fun j hj => (row_lt O5.out j hj).1)⟩
      case measure => simp [intOf]; omega
    · have hcases : (¬ (k : Int) < (L.length : Int)) ∨ ((k : Int) < (L.length : Int) ∧ ¬ (k : Int) < 70) := by omega
      obtain ⟨M, hM⟩ : ∃ M, M = cuts k 40 L := ⟨_, rfl⟩
      rw [← hM] at HO
      have hMl : ∀ s ∈ M, s.length ≤ 40 := by rw [hM]; exact cuts_text k 40 L
      have hMn : M.length ≤ 70 := by rw [hM, cuts_len]; omega
      have hMs := HO.out.strs (fun s hs => by have := hMl s hs; omega)
      have HMS := hid hMs
      obtain ⟨⟨A2, c2, hu, hlc2, hc2, hx2⟩, -⟩ := hMs
      subst hu
      have HX2 := hid hx2
      have HML := hid hMl
      clear hM hMl hx2 HO
      rcases hcases with hlt' | ⟨hlt', h70'⟩
      all_goals
        obtain ⟨ws, hws⟩ : ∃ ws, ws = wr := ⟨_, rfl⟩
        subst hws
        go_wp2
        go_loopw [6, 8] (fun u i w2 => ∃ j : Nat, j ≤ 67 ∧ i = .int .i64 j ∧ ownS w2 ws.heap.size u ((List.range j).map fun i => padz (M.getD i [])) ∧ Below ws.heap.size ws w2) (fun _ i _ => 67 - (intOf i).toNat)
        case atStart => exact ⟨0, by omega, rfl, ownS.nil _ _, Below.refl _ _⟩
        case round =>
          obtain ⟨j, hj67, rfl, ho2, hb2⟩ := hrel
          have HO2 := hid ho2
          have HB2 := hid hb2
          clear ho2 hb2
          by_cases hj : j < 67
          · have hjI : (j : Int) < 67 := by omega
            by_cases hjm : j < M.length
            · have hjmI : (j : Int) < (M.length : Int) := by omega
              obtain ⟨a2, ha2, hab2, hcell2⟩ := HX2.out j hjm
              subst ha2
              obtain ⟨x, hx⟩ : ∃ x, x = M.getD j [] := ⟨_, rfl⟩
              rw [← hx, ← HB2.out.cell (by rw [block_add]; exact hab2)] at hcell2
              have hak2 : (a2.add j).block < wr.heap.size := by rw [block_add]; have := HB2.out.size; omega
              have hxl : x.length ≤ 9223372036854775807 := by
                have := HML.out x (by rw [hx, List.getD_eq_getElem?_getD, List.getElem?_eq_getElem hjm]; exact List.getElem_mem hjm)
                omega
              obtain ⟨q, hq, hqb, hqc⟩ : ∃ q : Nat, min (x.length : Int) 32 = (q : Int) ∧ (q = 32 ∨ (q = x.length ∧ x.length ≤ 32)) ∧ q ≤ x.length := by
                by_cases h3 : x.length ≤ 32
                · exact ⟨x.length, by omega, Or.inr ⟨rfl, h3⟩, Nat.le_refl _⟩
                · exact ⟨32, by omega, Or.inl rfl, by omega⟩
              have hqa : (if (32 : Int) < (x.length : Int) then (32 : Int) else (x.length : Int)) = (q : Int) := by
                rw [← hq]
                split <;> omega
              have HqB := hid hqb
              clear hqb
              have hcut := cut_text x 32 q HqB.out
              obtain ⟨y, hy⟩ : ∃ y, y = x.take 32 := ⟨_, rfl⟩
              have hyq : y.length = q := by have := HqB.out; rw [hy, List.length_take]; omega
              rw [← hy] at hcut
              obtain ⟨m, hm⟩ : ∃ m : Nat, m = 32 - y.length := ⟨_, rfl⟩
              have hyl : y.length ≤ 32 := by have := HqB.out; omega
              have hmI : 32 - (y.length : Int) = (m : Int) := by omega
              have hsum : ¬ 9223372036854775807 < y.length + m := by omega
              obtain ⟨z, hz⟩ : ∃ z, z = padz x := ⟨_, rfl⟩
              have hcat : (⟨y.toArray⟩ : ByteArray) ++ ⟨Array.replicate m 0⟩ = ⟨z.toArray⟩ := by
                rw [hz, show (⟨Array.replicate m 0⟩ : ByteArray) = ⟨(List.replicate m 0).toArray⟩ by simp, str_app]
                unfold padz
                rw [← hy, hm, hy, take_take_min]
              have hzz : z = padz (M.getD j []) := by rw [hz, hx]
              have HZZ := hid hzz
              clear hx hy hm hz hyq hzz
              go_wp2_with fail
              have HOX := hid (row_below HO2.out (Below.refl wr.heap.size wr).drew)
              have HBX := hid (below_all HB2.out (Below.refl wr.heap.size wr).drew)
              refine wp_region_sq (fun W' => W' = wr.drew) [(true, 0), (true, 1), (true, 2), (true, 3), (true, 4), (true, 5), (true, 6), (true, 7), (true, 8), (true, 9)] 10 rfl (by kernel_rfl) (by kernel_rfl) (by kernel_rfl) (by decide) rfl (by kernel_rfl) rfl ?_
              refine sq_soft rfl (by kernel_rfl) (fun W hW => (by subst hW; go_simp; try rfl)) ?_; go_frame
              refine sq_soft rfl (by kernel_rfl) (fun W hW => (by subst hW; go_simp; try rfl)) ?_; go_frame
              refine sq_soft rfl (by kernel_rfl) (fun W hW => (by subst hW; go_simp; try rfl)) ?_; go_frame
              refine sq_soft rfl (by kernel_rfl) (fun W hW => (by subst hW; go_simp; try rfl)) ?_; go_frame
              refine sq_soft rfl (by kernel_rfl) (fun W hW => (by subst hW; go_simp; try rfl)) ?_; go_frame
              refine sq_soft rfl (by kernel_rfl) (fun W hW => (by subst hW; go_simp; try rfl)) ?_; go_frame
              refine sq_soft rfl (by kernel_rfl) (fun W hW => (by subst hW; go_simp; try rfl)) ?_; go_frame
              refine sq_soft rfl (by kernel_rfl) (fun W hW => (by subst hW; go_simp; try rfl)) ?_; go_frame
              refine sq_soft rfl (by kernel_rfl) (fun W hW => (by subst hW; go_simp; try rfl)) ?_; go_frame
              refine sq_soft rfl (by kernel_rfl) (fun W hW => (by subst hW; go_simp; try rfl)) ?_; go_frame
              refine sched_done ?_
              clear hcell2 hak2
              generalize World.drew wr = wx at HOX HBX ⊢
              clear HO2 HB2
              go_wp2_with (first
                | (refine wpList_zerosA rfl _ _ rfl m rfl rfl (by omega) ?_; intro w3 hA hb3 hlt3; have HA := hid hA; have HB3 := hid hb3; clear hA hb3 hlt3)
                | (refine wpList_b2s rfl _ rfl wx.heap.size 0 m m (List.replicate m 0) rfl (by simp) (arr_cells HA.out 0) ?_)
                | (at_builtin; go_must (refine ownS_append rfl _ _ rfl ws.heap.size _ _ [z] rfl (row_below (row_below HOX.out HB3.out) ((Below.refl _ _).alloc (Nat.le_refl _) (.cells #[.string ⟨z.toArray⟩] 9))) w3.heap.size 0 1 rfl (by intro j hj; rw [Nat.zero_add]; exact (arr.new w3 9 (scs [z])).cell j _ (scs_get _ _ hj)) (by simp; omega) (by have h1 := HBX.out.size; have h2 := HB3.out.size; simp; omega) ?_); intro v7 w7 ho7 hg7; have O7 := hid ho7; have G7 := hid hg7; clear ho7 hg7))
              go_roundw
              case rel => exact ⟨j + 1, by omega, by go_num, by rw [range_map_succ]; rw [HZZ.out] at O7; exact O7.out, ((below_all HBX.out HB3.out).alloc (by have h1 := HBX.out.size; have h2 := HB3.out.size; omega) _).grown G7.out (by have h1 := HBX.out.size; have h2 := HB3.out.size; simp; omega) (fun k hk => (row_lt (row_below (row_below HOX.out HB3.out) ((Below.refl _ _).alloc (Nat.le_refl _) (.cells #[.string ⟨z.toArray⟩] 9))) k hk).1)⟩
              case measure => simp [intOf]; omega
            · have hjmI : ¬ (j : Int) < (M.length : Int) := by omega
              obtain ⟨z, hz⟩ : ∃ z, z = padz (M.getD j []) := ⟨_, rfl⟩
              have hcat : (⟨#[]⟩ : ByteArray) ++ ⟨#[0, 0, 0, 0, 0, 0, 0, 0, 0, 0, 0, 0, 0, 0, 0, 0, 0, 0, 0, 0, 0, 0, 0, 0, 0, 0, 0, 0, 0, 0, 0, 0]⟩ = ⟨z.toArray⟩ := by
                rw [hz, List.getD_eq_getElem?_getD, List.getElem?_eq_none (by omega)]
                rfl
              have HZZ := hid hz
              clear hz
              have HOX := hid HO2.out
              have HBX := hid HB2.out
              clear HO2 HB2
              go_wp2_with (first
                | (refine wpList_zerosA rfl _ _ rfl 32 rfl rfl (by omega) ?_; intro w3 hA hb3 hlt3; have HA := hid hA; have HB3 := hid hb3; clear hA hb3 hlt3)
                | (refine wpList_b2s rfl _ rfl wr.heap.size 0 32 32 (List.replicate 32 0) rfl (by simp) (arr_cells HA.out 0) ?_)
                | (at_builtin; go_must (refine ownS_append rfl _ _ rfl ws.heap.size _ _ [z] rfl (row_below (row_below HOX.out HB3.out) ((Below.refl _ _).alloc (Nat.le_refl _) (.cells #[.string ⟨z.toArray⟩] 9))) w3.heap.size 0 1 rfl (by intro j hj; rw [Nat.zero_add]; exact (arr.new w3 9 (scs [z])).cell j _ (scs_get _ _ hj)) (by simp; omega) (by have h1 := HBX.out.size; have h2 := HB3.out.size; simp; omega) ?_); intro v7 w7 ho7 hg7; have O7 := hid ho7; have G7 := hid hg7; clear ho7 hg7))
              go_roundw
              case rel => exact ⟨j + 1, by omega, by go_num, by rw [range_map_succ]; rw [HZZ.out] at O7; exact O7.out, ((below_all HBX.out HB3.out).alloc (by have h1 := HBX.out.size; have h2 := HB3.out.size; omega) _).grown G7.out (by have h1 := HBX.out.size; have h2 := HB3.out.size; simp; omega) (fun k hk => (row_lt (row_below (row_below HOX.out HB3.out) ((Below.refl _ _).alloc (Nat.le_refl _) (.cells #[.string ⟨z.toArray⟩] 9))) k hk).1)⟩
              case measure => simp [intOf]; omega
          · obtain rfl : j = 67 := by omega
            have hjI : ¬ ((67 : Nat) : Int) < 67 := by omega
            obtain ⟨WL, hWL⟩ : ∃ WL, WL = (List.range 67).map fun i => padz (M.getD i []) := ⟨_, rfl⟩
            rw [← hWL] at HO2
            have hwl : ∀ s ∈ WL, s.length ≤ 9223372036854775807 := by
              rw [hWL]
              intro s hs
              obtain ⟨i, _, rfl⟩ := List.mem_map.1 hs
              rw [padz_len]; omega
            have VW := hid (HO2.out.strs hwl)
            have VM := hid (HMS.out.keep' HB2.out)
            have BW := hid (below_all HB.out HB2.out)
            clear hWL hwl HO2 HB2 HX2 HX HT HML HMS HB
            go_wp2_with fail
            refine (recover_any M _ dd HDL.out wr VM.out).mono ?_
            rintro e w3 ⟨o1, n1, rfl, hr1, b3⟩
            have R1 := hid hr1
            have VW3 := hid (VW.out.keep' b3)
            have VM3 := hid (VM.out.keep' b3)
            have B3 := hid (below_all BW.out b3)
            clear hr1 b3 VW VM BW
            go_wp2_with fail
            refine (rrecover_any M _ dd HDL.out w3 VM3.out).mono ?_
            rintro e w4 ⟨o2, n2, rfl, hr2, b4⟩
            obtain ⟨hoo, hnn⟩ := rcv_one R1.out hr2
            subst hoo
            subst hnn
            have VW4 := hid (VW3.out.keep' b4)
            have B4 := hid (below_all B3.out b4)
            clear hr2 b4 VW3 VM3 B3
            go_wp2_with fail
            refine (recover_any WL _ dd HDL.out w4 VW4.out).mono ?_
            rintro e w5 ⟨o3, n3, rfl, hr3, b5⟩
            have R3 := hid hr3
            have VW5 := hid (VW4.out.keep' b5)
            have B5 := hid (below_all B4.out b5)
            clear hr3 b5 VW4 B4
            go_wp2_with fail
            refine (rrecover_any WL _ dd HDL.out w5 VW5.out).mono ?_
            rintro e w6 ⟨o4, n4, rfl, hr4, b6⟩
            obtain ⟨hoo, hnn⟩ := rcv_one R3.out hr4
            subst hoo
            subst hnn
            have B6 := hid (below_all B5.out b6)
            clear hr4 b6 VW5 B5
            go_wp2_with fail
            refine (works13_any w6).mono ?_
            rintro e w7 ⟨rfl, b7⟩
            have B7 := hid (below_all B6.out b7)
            clear b7 B6
            go_wp2
            go_ret
            exact ⟨rfl, B7.out⟩
end Go.Proofs.Ytcfohdkdppiekaa
