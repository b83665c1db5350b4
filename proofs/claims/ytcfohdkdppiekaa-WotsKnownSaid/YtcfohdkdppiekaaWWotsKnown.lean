/- WotsKnown: the walk. -/
import Derived.Test.YtcfohdkdppiekaaWWorks13
namespace Go.Proofs.Ytcfohdkdppiekaa
open Go Go.RowKit Go.Proofs
attribute [local go_sem] Oper.semAt_some
def f32 : List UInt8 := List.replicate 32 255
theorem f32_low : ∀ i, i < 64 → (digs f32).getD i 0 = 15 := by
  intro i hi
  rw [digs_low f32 i hi]
  have h : f32.getD (i / 2) 0 = 255 := by unfold f32; rw [List.getD_eq_getElem?_getD, List.getElem?_replicate, if_pos (by omega)]; rfl
  unfold dg
  rw [h]
  split <;> rfl
theorem f32_64 : (digs f32).getD 64 0 = 0 := by decide +kernel
theorem f32_65 : (digs f32).getD 65 0 = 0 := by decide +kernel
theorem f32_66 : (digs f32).getD 66 0 = 0 := by decide +kernel
def sd4 : List UInt8 := [115, 101, 101, 100]
set_option maxRecDepth 100000 in
set_option maxHeartbeats 1000000 in
theorem wknown_any {w : World} : Calls Try.prog 21 #[] w fun e w' => e = .returned (.bool true) ∧ Below w.heap.size w w' := by
  obtain ⟨F, hF⟩ : ∃ Z : List UInt8, Z = List.replicate 32 255 := ⟨_, rfl⟩
  have HF := hid hF
  have HFL : Hid (F.length = 32) := hid (by rw [hF]; simp)
  have HLOW : Hid (∀ i, i < 64 → (digs F).getD i 0 = 15) := hid (by rw [hF]; exact f32_low)
  have H64 : Hid ((digs F).getD 64 0 = 0) := hid (by rw [hF]; exact f32_64)
  have H65 : Hid ((digs F).getD 65 0 = 0) := hid (by rw [hF]; exact f32_65)
  have H66 : Hid ((digs F).getD 66 0 = 0) := hid (by rw [hF]; exact f32_66)
  obtain ⟨IX, hIX⟩ : ∃ n : Nat, n = 18446744073709551615 := ⟨_, rfl⟩
  obtain ⟨sd, hsd⟩ : ∃ l : List UInt8, l = [115, 101, 101, 100] := ⟨_, rfl⟩
  have HSG : Hid (∀ W, Calls Try.prog 71 #[.string ⟨#[115, 101, 101, 100]⟩, .int .u64 18446744073709551615, .string ⟨F.toArray⟩] W fun e w' => ∃ v, e = .returned (.tuple #[v, .int .i64 0]) ∧ ownS w' W.heap.size v (sgn sd IX F) ∧ Below W.heap.size W w') := hid fun W => by rw [hsd, hIX]; exact sign_any [115, 101, 101, 100] (by simp) 18446744073709551615 (by omega) F HFL.out W
  have HSC : Hid (∀ (i : Nat), i ≤ 66 → ∀ W, Calls Try.prog 83 #[.agg (keyV [115, 101, 101, 100] 18446744073709551615).toArray, .int .i64 (i : Int)] W fun e w' => e = .returned (.string ⟨(scr sd IX i).toArray⟩) ∧ Below W.heap.size W w') := hid fun i hi W => by rw [hsd, hIX]; exact lsecret_any [115, 101, 101, 100] (by simp) 18446744073709551615 i (by omega) hi W
  clear hF hIX hsd
  go_enter Try.func21, Try.ntmps21
  obtain ⟨w0, hw0⟩ : ∃ w0, w0 = w.alloc (.cells (keyV [115, 101, 101, 100] 18446744073709551615).toArray 87) := ⟨_, rfl⟩
  have hb0 : Below w.heap.size w w0 := by rw [hw0]; exact (Below.refl _ _).alloc (Nat.le_refl _) _
  have ha0 : arr w0 w.heap.size 87 (keyV [115, 101, 101, 100] 18446744073709551615) := by rw [hw0]; exact arr.new w _ _
  have hsz0 : w0.heap.size = w.heap.size + 1 := by rw [hw0]; simp
  have HB0 := hid hb0
  have HA0 := hid ha0
  have HS0 := hid hsz0
  clear hb0 ha0 hsz0
  go_wp2_with (first | (rw [show w.alloc (.cells #[.string ⟨#[115, 101, 101, 100]⟩, .int .u64 18446744073709551615] 87) = w0 from hw0.symm]; refine wpList_zerosA rfl _ _ rfl 32 rfl rfl (by omega) ?_; intro w1 hA hb1 hlt1; have HA := hid hA; have HB := hid hb1; have HL := hid hlt1; clear hA hb1 hlt1))
  obtain ⟨eb, he⟩ : ∃ eb, eb = w.heap.size + 1 := ⟨_, rfl⟩
  obtain ⟨kb, hk⟩ : ∃ kb, kb = w.heap.size := ⟨_, rfl⟩
  have hA1 : Hid (arr w1 eb 5 (bcs (fill 255 0))) := hid (by rw [he, ← HS0.out]; exact HA.out)
  have hK1 : Hid (arr w1 kb 87 (keyV [115, 101, 101, 100] 18446744073709551615)) := hid (by rw [hk]; exact HA0.out.keep HB.out)
  have hB1 : Hid (Below w.heap.size w w1) := hid (below_all HB0.out HB.out)
  have hne : eb ≠ kb := by omega
  have hwe : w.heap.size ≤ eb := by omega
  have HNE := hid hne
  have HWE := hid hwe
  rw [← he, ← hk]
  clear he hk hne hwe hw0 HA HB HL HA0 HB0 HS0
  go_loopw [3] (fun i wr => ∃ k : Nat, k ≤ 32 ∧ i = .int .i64 k ∧ Below w.heap.size w wr ∧ arr wr eb 5 (bcs (fill 255 k)) ∧ arr wr kb 87 (keyV [115, 101, 101, 100] 18446744073709551615)) (fun i _ => 32 - (intOf i).toNat)
  case atStart => exact ⟨0, by omega, rfl, hB1.out, hA1.out, hK1.out⟩
  case round =>
    obtain ⟨k, hk, rfl, bw4, a4, b4⟩ := hrel
    have HB4 := hid b4
    by_cases hlk : k < 32
    · have hlk' : (k : Int) < 32 := by omega
      obtain ⟨v0, hv0⟩ : ∃ v, (bcs (fill 255 k))[k]? = some v := ⟨_, bcs_get _ _ (by rw [fill_len 255 _ hk]; omega)⟩
      have c4 := a4.cell k v0 hv0
      have f4 := a4.free k
      have l4 := a4.lt
      clear hv0 b4
      go_wp2
      go_roundw
      case rel =>
        refine ⟨k + 1, by omega, by go_num, bw4.setCell (by simp; exact HWE.out) _, ?_, HB4.out.other _ HNE.out _⟩
        rw [← fill_set 255 _ hlk]
        exact a4.set k _
      case measure => simp [intOf]; omega
    · obtain rfl : k = 32 := by omega
      have hlk' : ¬ ((32 : Nat) : Int) < 32 := by omega
      have A5 : Hid (arr wr eb 5 (bcs F)) := hid (by rw [HF.out]; exact a4)
      have B5 := hid bw4
      have c0 := HB4.out.cell 0 _ rfl
      have c1 := HB4.out.cell 1 _ rfl
      have lk := HB4.out.lt
      clear bw4 a4 b4 hA1 hK1 hB1 hk
      go_wp2_with (refine wpList_b2s rfl _ rfl eb 0 32 32 F rfl HFL.out (arr_cells A5.out 0) ?_)
      refine (HSG.out wr).mono ?_
      rintro e w6 ⟨v, rfl, o6, b6⟩
      obtain ⟨SG, hSG⟩ : ∃ SG, SG = sgn sd IX F := ⟨_, rfl⟩
      have hSl : SG.length = 67 := by rw [hSG]; exact sgn_len _ _ _
      have hsm : ∀ s ∈ SG, s.length = 32 := by rw [hSG]; exact sgn_mem_len _ _ _
      rw [← hSG] at o6
      obtain ⟨sb, sc, rfl, hsb, t6⟩ := ownS_txt o6 (by rw [hSl]; omega)
      rw [hSl]
      have hsc : 67 ≤ sc := by have := t6.cap; rw [hSl] at this; exact this
      have HSGE := hid hSG
      have HSl := hid hSl
      have HSM := hid hsm
      have K6 := hid (HB4.out.keep b6)
      have A6 := hid (A5.out.keep b6)
      have T6 := hid t6
      have B6 := hid (below_all B5.out b6)
      clear hSG hSl hsm o6 t6 b6 c0 c1 lk HB4 A5 B5
      go_wp2_with fail
      refine (recover_any [] _ [] (by simp) w6 (strsAt.nil _ _)).mono ?_
      rintro e w7 ⟨out, n, rfl, hrc, b7⟩
      obtain ⟨hout, hn⟩ := rcv_one hrc (show rcv [] [] [] 2 from Or.inl ⟨by simp, rfl, rfl⟩)
      rw [hout, hn]
      have K7 := hid (K6.out.keep b7)
      have A7 := hid (A6.out.keep b7)
      have T7 := hid (T6.out.keep b7)
      have B7 := hid (below_all B6.out b7)
      clear hout hn hrc b7 K6 A6 T6 B6
      go_wp2_with (refine wpList_b2s rfl _ rfl eb 0 32 32 F rfl HFL.out (arr_cells A7.out 0) ?_)
      refine (recover_any [] _ F (by rw [HFL.out]; omega) w7 (strsAt.nil _ _)).mono ?_
      rintro e w8 ⟨out, n, rfl, hrc, b8'⟩
      obtain ⟨hout, hn⟩ := rcv_one hrc (show rcv [] F [] 10 from Or.inr (Or.inl ⟨HFL.out, Or.inl (by simp), rfl, rfl⟩))
      rw [hout, hn]
      have K8 := hid (K7.out.keep b8')
      have A8 := hid (A7.out.keep b8')
      have T8 := hid (T7.out.keep b8')
      have B8 := hid (below_all B7.out b8')
      clear hout hn hrc b8' K7 A7 T7 B7
      go_wp2_with fail
      have hsm2 : ∀ s ∈ SG, s.length ≤ 9223372036854775807 := fun s hs => by rw [HSM.out s hs]; omega
      have HSM2 := hid hsm2
      have A9 := hid (A8.out.keep (Below.refl w8.heap.size w8).drew)
      have K9 := hid (K8.out.keep (Below.refl w8.heap.size w8).drew)
      have T9 := hid (T8.out.keep (Below.refl w8.heap.size w8).drew)
      have B9 := hid (below_all B8.out (Below.refl w8.heap.size w8).drew)
      have hw9 : w.heap.size ≤ w8.drew.heap.size := B9.out.size
      clear hsm2
      refine wp_region_sq (fun X => arr X eb 5 (bcs F)) [(true, 1), (true, 6), (true, 7), (false, 0), (false, 2), (false, 3), (false, 4), (false, 5), (false, 8), (true, 9), (true, 10), (true, 11), (false, 12)] 13 rfl (by kernel_rfl) (by kernel_rfl) (by kernel_rfl) (by decide) rfl (by kernel_rfl) A9.out ?_
      clear A8 K8 T8 B8
      generalize World.drew w8 = w9 at A9 K9 T9 B9 hw9 ⊢
      refine sq_soft rfl (by kernel_rfl) (fun W hW => (by go_simp; try rfl)) ?_; go_frame
      refine sq_soft rfl (by kernel_rfl) (fun W hW => (by go_simp; try rfl)) ?_; go_frame
      refine sq_soft rfl (by kernel_rfl) (v := .string ⟨F.toArray⟩) (fun W hW => (by have hbs := b2s_run W eb 0 32 32 F HFL.out (fun i hi => arr_cells hW 0 i (by simp only [List.drop_zero, HFL.out]; exact hi)); go_simp; try simp [hbs])) ?_; go_frame
      refine sq_op rfl (by kernel_rfl) ?_
      go_simp
      obtain ⟨w10, hw10⟩ : ∃ w10, w10 = w9.alloc (.cells #[] 9) := ⟨_, rfl⟩
      have hal : Below w9.heap.size w9 w10 := by rw [hw10]; exact (Below.refl _ _).alloc (Nat.le_refl _) _
      have O10 : Hid (ownS w10 w9.heap.size (.slice (some ⟨w9.heap.size, 0, none⟩) 0 0) []) := hid (by rw [hw10]; exact ownS.lit w9 w9.heap.size [] (Nat.le_refl _) (by simp))
      have A10 := hid (A9.out.keep hal)
      have K10 := hid (K9.out.keep hal)
      have T10 := hid (T9.out.keep hal)
      have B10 := hid (below_all B9.out hal)
      have V10 : Hid (strsAt w10 w10.heap.size (.slice (some ⟨sb, 0, none⟩) 67 sc) SG) := hid (by have := T10.out.strs HSM2.out; rwa [HSl.out] at this)
      have hs9 : w9.heap.size ≤ w10.heap.size := hal.size
      have L9 := hid (show eb < w9.heap.size ∧ kb < w9.heap.size ∧ sb < w9.heap.size from ⟨A9.out.lt, K9.out.lt, T9.out.lt⟩)
      rw [← hw10]
      refine ⟨A10.out, ?_⟩
      clear hal hw10 A9 K9 T9 B9
      try go_frame
      refine sq_op rfl (by kernel_rfl) ?_
      refine wp_appendS _ _ rfl w9.heap.size _ _ [] SG rfl O10.out _ rfl V10.out (by rw [HSl.out]; simp) hs9 ?_
      intro v11 w11 ho11 hg11
      rw [List.nil_append] at ho11
      have hg11' : w10.grownBy w11 (some w9.heap.size) := hg11
      have A11 := hid (A10.out.kept hg11' (by have := L9.out.1; omega))
      have K11 := hid (K10.out.kept hg11' (by have := L9.out.2.1; omega))
      have T11 := hid (T10.out.grown hg11' (fun e => by injection e with e; have := L9.out.2.2; omega))
      have B11 := hid (B10.out.grown hg11' B10.out.size (fun k hk => by injection hk with hk; omega))
      have O11 := hid ho11
      have S11 : w9.heap.size ≤ w11.heap.size := Nat.le_trans hs9 hg11'.size
      refine ⟨A11.out, ?_⟩
      clear ho11 hg11 hg11' A10 K10 T10 B10 V10 O10
      try go_frame
      refine sq_op rfl (by kernel_rfl) ?_
      go_simp
      refine (dgst_any [] (by simp) w11).mono ?_
      rintro e w12 ⟨rfl, b12⟩
      obtain ⟨z0, hz0⟩ : ∃ z, z = padz [] := ⟨_, rfl⟩
      have hz0l : z0.length = 32 := by rw [hz0]; exact padz_len []
      rw [← hz0]
      have A12 := hid (A11.out.keep b12)
      have K12 := hid (K11.out.keep b12)
      have T12 := hid (T11.out.keep b12)
      have B12 := hid (below_all B11.out b12)
      have O12 : Hid (ownS w12 w9.heap.size v11 SG) := hid (row_below O11.out b12)
      have S12 : w9.heap.size ≤ w12.heap.size := Nat.le_trans S11 b12.size
      have HZ0 := hid hz0l
      refine ⟨A12.out, ?_⟩
      clear hz0 hz0l b12 A11 K11 T11 B11 O11 S11
      try go_frame
      refine sq_op rfl (by kernel_rfl) ?_
      go_simp
      obtain ⟨w13, hw13⟩ : ∃ w13, w13 = w12.alloc (.cells #[.string ⟨z0.toArray⟩] 9) := ⟨_, rfl⟩
      have hal : Below w12.heap.size w12 w13 := by rw [hw13]; exact (Below.refl _ _).alloc (Nat.le_refl _) _
      have V13 : Hid (strsAt w13 w13.heap.size (.slice (some ⟨w12.heap.size, 0, none⟩) 1 1) [z0]) := hid (by rw [hw13]; exact strsAt.lit' w12 [z0] (by have := HZ0.out; simp; omega) (by simp) 9)
      have A13 := hid (A12.out.keep hal)
      have K13 := hid (K12.out.keep hal)
      have T13 := hid (T12.out.keep hal)
      have B13 := hid (below_all B12.out hal)
      have O13 : Hid (ownS w13 w9.heap.size v11 SG) := hid (row_below O12.out hal)
      have S13 : w9.heap.size ≤ w13.heap.size := Nat.le_trans S12 hal.size
      rw [← hw13]
      refine ⟨A13.out, ?_⟩
      clear hal hw13 A12 K12 T12 B12 O12 S12
      try go_frame
      refine sq_op rfl (by kernel_rfl) ?_
      refine wp_appendS _ _ rfl w9.heap.size _ _ SG [z0] rfl O13.out _ rfl V13.out (by rw [HSl.out]; simp) S13 ?_
      intro v14 w14 ho14 hg14
      have A14 := hid (arr_row A13.out O13.out hg14 (by decide))
      have K14 := hid (arr_row K13.out O13.out hg14 (by decide))
      have T14 := hid (T13.out.grown hg14 (fun e => by have h1 := (row_lt O13.out sb e.symm).1; have := L9.out.2.2; omega))
      have B14 := hid (B13.out.grown hg14 B13.out.size (fun k hk => Nat.le_trans hw9 (row_lt O13.out k hk).1))
      have hl14 : ∀ s ∈ SG ++ [z0], s.length ≤ 9223372036854775807 := fun s hs => by
        rcases List.mem_append.1 hs with h | h
        · exact HSM2.out s h
        · rw [List.mem_singleton.1 h, HZ0.out]; omega
      have V14 := hid (ownS.strs ho14 hl14)
      refine ⟨A14.out, ?_⟩
      clear ho14 hg14 hl14 A13 K13 T13 B13 O13 S13 V13
      try go_frame
      refine sq_op rfl (by kernel_rfl) ?_
      go_simp
      refine (recover_any (SG ++ [z0]) v14 F (by rw [HFL.out]; omega) w14 V14.out).mono ?_
      rintro e w15 ⟨out, n, rfl, hrc, b15⟩
      obtain ⟨hout, hn⟩ := rcv_one hrc (show rcv (SG ++ [z0]) F [] 10 from Or.inr (Or.inl ⟨HFL.out, Or.inl (by rw [List.length_append, HSl.out]; simp), rfl, rfl⟩))
      rw [hout, hn]
      have A15 := hid (A14.out.keep b15)
      have K15 := hid (K14.out.keep b15)
      have T15 := hid (T14.out.keep b15)
      have B15 := hid (below_all B14.out b15)
      refine ⟨A15.out, ?_⟩
      clear hout hn hrc b15 A14 K14 T14 B14 V14
      try go_frame
      refine sq_soft rfl (by kernel_rfl) (fun W hW => (by go_simp; try rfl)) ?_; go_frame
      refine sq_soft rfl (by kernel_rfl) (fun W hW => (by go_simp; try rfl)) ?_; go_frame
      refine sq_soft rfl (by kernel_rfl) (fun W hW => (by go_simp; try rfl)) ?_; go_frame
      refine sq_op rfl (by kernel_rfl) ?_
      go_simp
      refine ⟨A15.out, ?_⟩
      try go_frame
      refine sched_done ?_
      go_wp2_with fail
      go_loopw [12] (fun i wr => ∃ j : Nat, j ≤ 64 ∧ i = .int .i64 j ∧ Below w15.heap.size w15 wr) (fun i _ => 64 - (intOf i).toNat)
      case atStart => exact ⟨0, by omega, rfl, Below.refl _ _⟩
      case round =>
        obtain ⟨j, hj64, rfl, hb2⟩ := hrel
        have HB := hid hb2
        clear hb2
        by_cases hj : j < 64
        · have hjI : (j : Int) < 64 := by omega
          have hj67 : (j : Int) < 67 := by omega
          obtain ⟨q0, hq0⟩ : ∃ q, q = scr sd IX j := ⟨_, rfl⟩
          obtain ⟨x0, hx0⟩ : ∃ x, x = SG.getD j [] := ⟨_, rfl⟩
          have hql : q0.length = 32 := by rw [hq0]; exact scr_len _ _ _
          have hx02 : x0 = wlk j 0 15 q0 := by rw [hx0, HSGE.out, sgn_get _ _ _ _ (by omega), HLOW.out j hj, hq0]
          have HL0 : Hid (∀ W, Calls Try.prog 82 #[.int .i64 (j : Int), .int .i64 0, .int .i64 15, .string ⟨q0.toArray⟩] W fun e w' => e = .returned (.string ⟨x0.toArray⟩) ∧ Below W.heap.size W w') := hid fun W => by rw [hx02]; exact walk_any j 0 15 (by omega) (by omega) (by omega) q0 (by omega) W
          have HLS : Hid (∀ W, Calls Try.prog 83 #[.agg (keyV [115, 101, 101, 100] 18446744073709551615).toArray, .int .i64 (j : Int)] W fun e w' => e = .returned (.string ⟨q0.toArray⟩) ∧ Below W.heap.size W w') := hid fun W => by rw [hq0]; exact HSC.out j (by omega) W
          have hK : ∀ X, Below w15.heap.size w15 X → X.cell? ⟨sb, j, none⟩ = some (.string ⟨x0.toArray⟩) ∧ sb < X.heap.size ∧ arr X kb 87 (keyV [115, 101, 101, 100] 18446744073709551615) := fun X hX =>
            ⟨by rw [hx0]; exact (T15.out.keep hX).cells j (by rw [HSl.out]; omega), (T15.out.keep hX).lt, K15.out.keep hX⟩
          have HK := hid hK
          clear hq0 hx0 hx02 hql hK
          go_wp2_with fail
          have B0 := hid (below_all HB.out (Below.refl wr.heap.size wr).drew)
          clear HB
          refine wp_region_sq (fun X => X.cell? ⟨sb, j, none⟩ = some (.string ⟨x0.toArray⟩) ∧ sb < X.heap.size ∧ arr X kb 87 (keyV [115, 101, 101, 100] 18446744073709551615)) [(true, 0), (true, 1), (true, 2), (true, 3), (true, 4), (true, 5), (true, 6), (false, 7), (false, 8)] 9 rfl (by kernel_rfl) (by kernel_rfl) (by kernel_rfl) (by decide) rfl (by kernel_rfl) (HK.out _ B0.out) ?_
          generalize World.drew wr = wa at B0 ⊢
          refine sq_soft rfl (by kernel_rfl) (fun W hW => (by obtain ⟨hW1, hW2, hW5⟩ := hW; go_simp; try rfl)) ?_; go_frame
          refine sq_soft rfl (by kernel_rfl) (fun W hW => (by obtain ⟨hW1, hW2, hW5⟩ := hW; go_simp; try rfl)) ?_; go_frame
          refine sq_soft rfl (by kernel_rfl) (fun W hW => (by obtain ⟨hW1, hW2, hW5⟩ := hW; go_simp; try rfl)) ?_; go_frame
          refine sq_soft rfl (by kernel_rfl) (fun W hW => (by obtain ⟨hW1, hW2, hW5⟩ := hW; go_simp; try rfl)) ?_; go_frame
          refine sq_soft rfl (by kernel_rfl) (fun W hW => (by obtain ⟨hW1, hW2, hW5⟩ := hW; go_simp; try rfl)) ?_; go_frame
          refine sq_soft rfl (by kernel_rfl) (v := .agg (keyV [115, 101, 101, 100] 18446744073709551615).toArray) (fun W hW => (by obtain ⟨hW1, hW2, hW5⟩ := hW; exact exec_load_part 87 _ rfl kb 0 rfl _ _ (fun j v h => hW5.cell _ _ (by rw [Nat.zero_add]; exact h)) Try.underlying87 rfl (by kernel_rfl))) ?_; go_frame
          refine sq_soft rfl (by kernel_rfl) (fun W hW => (by obtain ⟨hW1, hW2, hW5⟩ := hW; go_simp; try rfl)) ?_; go_frame
          refine sq_op rfl (by kernel_rfl) ?_
          go_simp
          refine (HLS.out wa).mono ?_
          rintro e wb ⟨rfl, bb⟩
          have B1 := hid (below_all B0.out bb)
          refine ⟨HK.out _ B1.out, ?_⟩
          clear bb B0
          try go_frame
          refine sq_op rfl (by kernel_rfl) ?_
          go_simp
          refine (HL0.out wb).mono ?_
          rintro e wc ⟨rfl, bc⟩
          have B2 := hid (below_all B1.out bc)
          refine ⟨HK.out _ B2.out, ?_⟩
          clear bc B1
          try go_frame
          refine sched_done ?_
          go_wp2
          go_roundw
          case rel => exact ⟨j + 1, by omega, by go_num, B2.out⟩
          case measure => simp [intOf]; omega
        · obtain rfl : j = 64 := by omega
          have hjI : ¬ ((64 : Nat) : Int) < 64 := by omega
          go_wp2_with fail
          obtain ⟨q64, hq64⟩ : ∃ q, q = scr sd IX 64 := ⟨_, rfl⟩
          have hx64 : SG.getD 64 [] = q64 := by rw [HSGE.out, sgn_get _ _ _ _ (by omega), H64.out, hq64]; exact wlk_same _ _ _
          have HS64 : Hid (∀ W, Calls Try.prog 83 #[.agg (keyV [115, 101, 101, 100] 18446744073709551615).toArray, .int .i64 64] W fun e w' => e = .returned (.string ⟨q64.toArray⟩) ∧ Below W.heap.size W w') := hid fun W => by rw [hq64]; exact HSC.out 64 (by omega) W
          obtain ⟨q65, hq65⟩ : ∃ q, q = scr sd IX 65 := ⟨_, rfl⟩
          have hx65 : SG.getD 65 [] = q65 := by rw [HSGE.out, sgn_get _ _ _ _ (by omega), H65.out, hq65]; exact wlk_same _ _ _
          have HS65 : Hid (∀ W, Calls Try.prog 83 #[.agg (keyV [115, 101, 101, 100] 18446744073709551615).toArray, .int .i64 65] W fun e w' => e = .returned (.string ⟨q65.toArray⟩) ∧ Below W.heap.size W w') := hid fun W => by rw [hq65]; exact HSC.out 65 (by omega) W
          obtain ⟨q66, hq66⟩ : ∃ q, q = scr sd IX 66 := ⟨_, rfl⟩
          have hx66 : SG.getD 66 [] = q66 := by rw [HSGE.out, sgn_get _ _ _ _ (by omega), H66.out, hq66]; exact wlk_same _ _ _
          have HS66 : Hid (∀ W, Calls Try.prog 83 #[.agg (keyV [115, 101, 101, 100] 18446744073709551615).toArray, .int .i64 66] W fun e w' => e = .returned (.string ⟨q66.toArray⟩) ∧ Below W.heap.size W w') := hid fun W => by rw [hq66]; exact HSC.out 66 (by omega) W
          obtain ⟨PE, hPE⟩ : ∃ PE, PE = pub [] 0 := ⟨_, rfl⟩
          have hPEl : PE.length = 32 := by rw [hPE]; exact hsh_len ok_public _
          have hPEI : (PE.length : Int) = 32 := by omega
          have HPB : Hid (∀ W, Calls Try.prog 73 #[.string ⟨#[]⟩, .int .u64 0] W fun e w' => e = .returned (.string ⟨PE.toArray⟩) ∧ Below W.heap.size W w') := hid fun W => by rw [hPE]; exact public_any [] (by simp) 0 (by omega) W
          have hK : ∀ X, Below w15.heap.size w15 X → X.cell? ⟨sb, 64, none⟩ = some (.string ⟨q64.toArray⟩) ∧ X.cell? ⟨sb, 65, none⟩ = some (.string ⟨q65.toArray⟩) ∧ X.cell? ⟨sb, 66, none⟩ = some (.string ⟨q66.toArray⟩) ∧ sb < X.heap.size ∧ arr X kb 87 (keyV [115, 101, 101, 100] 18446744073709551615) := fun X hX =>
            ⟨by rw [← hx64]; exact (T15.out.keep hX).cells 64 (by rw [HSl.out]; omega), by rw [← hx65]; exact (T15.out.keep hX).cells 65 (by rw [HSl.out]; omega), by rw [← hx66]; exact (T15.out.keep hX).cells 66 (by rw [HSl.out]; omega), (T15.out.keep hX).lt, K15.out.keep hX⟩
          have HK := hid hK
          clear hq64 hq65 hq66 hx64 hx65 hx66 hPE hPEl hK
          have BX0 := hid (below_all HB.out (Below.refl wr.heap.size wr).drew)
          clear HB
          refine wp_region_sq (fun X => X.cell? ⟨sb, 64, none⟩ = some (.string ⟨q64.toArray⟩) ∧ X.cell? ⟨sb, 65, none⟩ = some (.string ⟨q65.toArray⟩) ∧ X.cell? ⟨sb, 66, none⟩ = some (.string ⟨q66.toArray⟩) ∧ sb < X.heap.size ∧ arr X kb 87 (keyV [115, 101, 101, 100] 18446744073709551615)) [(true, 0), (false, 1), (true, 2), (true, 3), (true, 4), (true, 5), (true, 6), (true, 7), (false, 8), (true, 9), (true, 10), (true, 11), (true, 12), (true, 13), (true, 14), (true, 15), (false, 16), (true, 17), (true, 18), (true, 19), (true, 20), (true, 21), (true, 22), (true, 23), (false, 24), (true, 25), (true, 26), (true, 27), (true, 28), (true, 29), (true, 30), (true, 31), (true, 32), (true, 33), (true, 34), (true, 35), (true, 36), (true, 37), (true, 38), (true, 39), (false, 40), (true, 41), (true, 42)] 43 rfl (by kernel_rfl) (by kernel_rfl) (by kernel_rfl) (by decide) rfl (by kernel_rfl) (HK.out _ BX0.out) ?_
          generalize World.drew wr = X0 at BX0 ⊢
          refine sq_soft rfl (by kernel_rfl) (fun W hW => (by obtain ⟨hW1, hW2, hW3, hW4, hW5⟩ := hW; go_simp; try rfl)) ?_; go_frame
          refine sq_op rfl (by kernel_rfl) ?_
          go_simp
          refine (works13_any X0).mono ?_
          rintro e X1 ⟨rfl, bb⟩
          have BX1 := hid (below_all BX0.out bb)
          refine ⟨HK.out _ BX1.out, ?_⟩
          clear bb BX0
          try go_frame
          refine sq_soft rfl (by kernel_rfl) (fun W hW => (by obtain ⟨hW1, hW2, hW3, hW4, hW5⟩ := hW; go_simp; try rfl)) ?_; go_frame
          refine sq_soft rfl (by kernel_rfl) (fun W hW => (by obtain ⟨hW1, hW2, hW3, hW4, hW5⟩ := hW; go_simp; try rfl)) ?_; go_frame
          refine sq_soft rfl (by kernel_rfl) (fun W hW => (by obtain ⟨hW1, hW2, hW3, hW4, hW5⟩ := hW; go_simp; try rfl)) ?_; go_frame
          refine sq_soft rfl (by kernel_rfl) (fun W hW => (by obtain ⟨hW1, hW2, hW3, hW4, hW5⟩ := hW; go_simp; try rfl)) ?_; go_frame
          refine sq_soft rfl (by kernel_rfl) (fun W hW => (by obtain ⟨hW1, hW2, hW3, hW4, hW5⟩ := hW; go_simp; try rfl)) ?_; go_frame
          refine sq_soft rfl (by kernel_rfl) (v := .agg (keyV [115, 101, 101, 100] 18446744073709551615).toArray) (fun W hW => (by obtain ⟨hW1, hW2, hW3, hW4, hW5⟩ := hW; exact exec_load_part 87 _ rfl kb 0 rfl _ _ (fun j v h => hW5.cell _ _ (by rw [Nat.zero_add]; exact h)) Try.underlying87 rfl (by kernel_rfl))) ?_; go_frame
          refine sq_op rfl (by kernel_rfl) ?_
          go_simp
          refine (HS64.out X1).mono ?_
          rintro e X2 ⟨rfl, bb⟩
          have BX2 := hid (below_all BX1.out bb)
          refine ⟨HK.out _ BX2.out, ?_⟩
          clear bb BX1
          try go_frame
          refine sq_soft rfl (by kernel_rfl) (fun W hW => (by obtain ⟨hW1, hW2, hW3, hW4, hW5⟩ := hW; go_simp; try rfl)) ?_; go_frame
          refine sq_soft rfl (by kernel_rfl) (fun W hW => (by obtain ⟨hW1, hW2, hW3, hW4, hW5⟩ := hW; go_simp; try rfl)) ?_; go_frame
          refine sq_soft rfl (by kernel_rfl) (fun W hW => (by obtain ⟨hW1, hW2, hW3, hW4, hW5⟩ := hW; go_simp; try rfl)) ?_; go_frame
          refine sq_soft rfl (by kernel_rfl) (fun W hW => (by obtain ⟨hW1, hW2, hW3, hW4, hW5⟩ := hW; go_simp; try rfl)) ?_; go_frame
          refine sq_soft rfl (by kernel_rfl) (fun W hW => (by obtain ⟨hW1, hW2, hW3, hW4, hW5⟩ := hW; go_simp; try rfl)) ?_; go_frame
          refine sq_soft rfl (by kernel_rfl) (fun W hW => (by obtain ⟨hW1, hW2, hW3, hW4, hW5⟩ := hW; go_simp; try rfl)) ?_; go_frame
          refine sq_soft rfl (by kernel_rfl) (v := .agg (keyV [115, 101, 101, 100] 18446744073709551615).toArray) (fun W hW => (by obtain ⟨hW1, hW2, hW3, hW4, hW5⟩ := hW; exact exec_load_part 87 _ rfl kb 0 rfl _ _ (fun j v h => hW5.cell _ _ (by rw [Nat.zero_add]; exact h)) Try.underlying87 rfl (by kernel_rfl))) ?_; go_frame
          refine sq_op rfl (by kernel_rfl) ?_
          go_simp
          refine (HS65.out X2).mono ?_
          rintro e X3 ⟨rfl, bb⟩
          have BX3 := hid (below_all BX2.out bb)
          refine ⟨HK.out _ BX3.out, ?_⟩
          clear bb BX2
          try go_frame
          refine sq_soft rfl (by kernel_rfl) (fun W hW => (by obtain ⟨hW1, hW2, hW3, hW4, hW5⟩ := hW; go_simp; try rfl)) ?_; go_frame
          refine sq_soft rfl (by kernel_rfl) (fun W hW => (by obtain ⟨hW1, hW2, hW3, hW4, hW5⟩ := hW; go_simp; try rfl)) ?_; go_frame
          refine sq_soft rfl (by kernel_rfl) (fun W hW => (by obtain ⟨hW1, hW2, hW3, hW4, hW5⟩ := hW; go_simp; try rfl)) ?_; go_frame
          refine sq_soft rfl (by kernel_rfl) (fun W hW => (by obtain ⟨hW1, hW2, hW3, hW4, hW5⟩ := hW; go_simp; try rfl)) ?_; go_frame
          refine sq_soft rfl (by kernel_rfl) (fun W hW => (by obtain ⟨hW1, hW2, hW3, hW4, hW5⟩ := hW; go_simp; try rfl)) ?_; go_frame
          refine sq_soft rfl (by kernel_rfl) (fun W hW => (by obtain ⟨hW1, hW2, hW3, hW4, hW5⟩ := hW; go_simp; try rfl)) ?_; go_frame
          refine sq_soft rfl (by kernel_rfl) (v := .agg (keyV [115, 101, 101, 100] 18446744073709551615).toArray) (fun W hW => (by obtain ⟨hW1, hW2, hW3, hW4, hW5⟩ := hW; exact exec_load_part 87 _ rfl kb 0 rfl _ _ (fun j v h => hW5.cell _ _ (by rw [Nat.zero_add]; exact h)) Try.underlying87 rfl (by kernel_rfl))) ?_; go_frame
          refine sq_op rfl (by kernel_rfl) ?_
          go_simp
          refine (HS66.out X3).mono ?_
          rintro e X4 ⟨rfl, bb⟩
          have BX4 := hid (below_all BX3.out bb)
          refine ⟨HK.out _ BX4.out, ?_⟩
          clear bb BX3
          try go_frame
          refine sq_soft rfl (by kernel_rfl) (fun W hW => (by obtain ⟨hW1, hW2, hW3, hW4, hW5⟩ := hW; go_simp; try rfl)) ?_; go_frame
          refine sq_soft rfl (by kernel_rfl) (fun W hW => (by obtain ⟨hW1, hW2, hW3, hW4, hW5⟩ := hW; go_simp; try rfl)) ?_; go_frame
          refine sq_soft rfl (by kernel_rfl) (fun W hW => (by obtain ⟨hW1, hW2, hW3, hW4, hW5⟩ := hW; go_simp; try rfl)) ?_; go_frame
          refine sq_soft rfl (by kernel_rfl) (fun W hW => (by obtain ⟨hW1, hW2, hW3, hW4, hW5⟩ := hW; go_simp; try rfl)) ?_; go_frame
          refine sq_soft rfl (by kernel_rfl) (fun W hW => (by obtain ⟨hW1, hW2, hW3, hW4, hW5⟩ := hW; go_simp; try rfl)) ?_; go_frame
          refine sq_soft rfl (by kernel_rfl) (fun W hW => (by obtain ⟨hW1, hW2, hW3, hW4, hW5⟩ := hW; go_simp; try rfl)) ?_; go_frame
          refine sq_soft rfl (by kernel_rfl) (fun W hW => (by obtain ⟨hW1, hW2, hW3, hW4, hW5⟩ := hW; go_simp; try rfl)) ?_; go_frame
          refine sq_soft rfl (by kernel_rfl) (fun W hW => (by obtain ⟨hW1, hW2, hW3, hW4, hW5⟩ := hW; go_simp; try rfl)) ?_; go_frame
          refine sq_soft rfl (by kernel_rfl) (fun W hW => (by obtain ⟨hW1, hW2, hW3, hW4, hW5⟩ := hW; go_simp; try rfl)) ?_; go_frame
          refine sq_soft rfl (by kernel_rfl) (fun W hW => (by obtain ⟨hW1, hW2, hW3, hW4, hW5⟩ := hW; go_simp; try rfl)) ?_; go_frame
          refine sq_soft rfl (by kernel_rfl) (fun W hW => (by obtain ⟨hW1, hW2, hW3, hW4, hW5⟩ := hW; go_simp; try rfl)) ?_; go_frame
          refine sq_soft rfl (by kernel_rfl) (fun W hW => (by obtain ⟨hW1, hW2, hW3, hW4, hW5⟩ := hW; go_simp; try rfl)) ?_; go_frame
          refine sq_soft rfl (by kernel_rfl) (fun W hW => (by obtain ⟨hW1, hW2, hW3, hW4, hW5⟩ := hW; go_simp; try rfl)) ?_; go_frame
          refine sq_soft rfl (by kernel_rfl) (fun W hW => (by obtain ⟨hW1, hW2, hW3, hW4, hW5⟩ := hW; go_simp; try rfl)) ?_; go_frame
          refine sq_soft rfl (by kernel_rfl) (fun W hW => (by obtain ⟨hW1, hW2, hW3, hW4, hW5⟩ := hW; go_simp; try rfl)) ?_; go_frame
          refine sq_op rfl (by kernel_rfl) ?_
          go_simp
          refine (HPB.out X4).mono ?_
          rintro e X5 ⟨rfl, bb⟩
          have BX5 := hid (below_all BX4.out bb)
          refine ⟨HK.out _ BX5.out, ?_⟩
          clear bb BX4
          try go_frame
          refine sq_soft rfl (by kernel_rfl) (fun W hW => (by obtain ⟨hW1, hW2, hW3, hW4, hW5⟩ := hW; go_simp; try rfl)) ?_; go_frame
          refine sq_soft rfl (by kernel_rfl) (fun W hW => (by obtain ⟨hW1, hW2, hW3, hW4, hW5⟩ := hW; go_simp; try rfl)) ?_; go_frame
          refine sched_done ?_
          go_wp2
          go_ret
          exact ⟨rfl, below_all B15.out BX5.out⟩
end Go.Proofs.Ytcfohdkdppiekaa
