/- WotsBack: the walk. -/
import Derived.Test.YtcfohdkdppiekaaWWorks13
namespace Go.Proofs.Ytcfohdkdppiekaa
open Go Go.RowKit Go.Proofs
attribute [local go_sem] Oper.semAt_some
set_option maxRecDepth 100000 in
set_option maxHeartbeats 2000000 in
theorem back_any (k : List UInt8 × Nat) (vk : Value) (hk : k.1.length ≤ 9223372036854775807 ∧ k.2 < 18446744073709551616 ∧ vk = .agg (keyV k.1 k.2).toArray) (d : List UInt8) (hd : d.length ≤ 9223372036854775807) {w : World} :
    Calls Try.prog 19 #[vk, .string ⟨d.toArray⟩] w fun e w' => e = .returned (.bool true) ∧ Below w.heap.size w w' := by
  obtain ⟨s, index⟩ := k
  obtain ⟨hsl, hix, rfl⟩ := hk
  simp only [] at hsl hix
  obtain ⟨p, hp⟩ : ∃ p, p = s.take 100 := ⟨_, rfl⟩
  obtain ⟨D, hD⟩ : ∃ p, p = padz d := ⟨_, rfl⟩
  have hpl : p.length ≤ 1000 := by rw [hp, List.length_take]; omega
  have hDl : D.length = 32 := by rw [hD]; exact padz_len d
  have hix2 : index ≤ 18446744073709551615 := by omega
  have HCUT : Hid (∀ W, Calls Try.prog 79 #[.agg #[.string ⟨s.toArray⟩, .int .u64 (index : Int)]] W fun e w' => e = .returned (.agg #[.string ⟨p.toArray⟩, .int .u64 (index : Int)]) ∧ Below W.heap.size W w') := hid fun W => by rw [hp]; exact kcut_any s hsl index W
  have HDG : Hid (∀ W, Calls Try.prog 80 #[.string ⟨d.toArray⟩] W fun e w' => e = .returned (.string ⟨D.toArray⟩) ∧ Below W.heap.size W w') := hid fun W => by rw [hD]; exact dgst_any d hd W
  obtain ⟨PB, hPB⟩ : ∃ PB, PB = pub p index := ⟨_, rfl⟩
  have HPB : Hid (∀ W, Calls Try.prog 73 #[.string ⟨p.toArray⟩, .int .u64 (index : Int)] W fun e w' => e = .returned (.string ⟨PB.toArray⟩) ∧ Below W.heap.size W w') := hid fun W => by rw [hPB]; exact public_any p hpl index hix2 W
  have HPBE := hid hPB
  have HPL := hid hpl
  have HDL := hid hDl
  have HIX := hid hix2
  clear hp hD hpl hDl hPB hix2
  unfold keyV
  go_enter Try.func19, Try.ntmps19
  go_wp2_with fail
  obtain ⟨w1, hw1⟩ : ∃ w1, w1 = w.alloc (.cells (keyV s index).toArray 87) := ⟨_, rfl⟩
  have hb1 : Below w.heap.size w w1 := by rw [hw1]; exact (Below.refl _ _).alloc (Nat.le_refl _) _
  have a1 : arr w1 w.heap.size 87 (keyV s index) := by rw [hw1]; exact arr.new w _ _
  rw [show w.alloc (.cells #[.string ⟨s.toArray⟩, .int .u64 (index : Int)] 87) = w1 from hw1.symm]
  obtain ⟨kb, hkb⟩ : ∃ kb, kb = w.heap.size := ⟨_, rfl⟩
  rw [← hkb] at a1
  rw [← hkb]
  have HKB := hid hkb
  clear hw1 hkb
  refine (works13_any w1).mono ?_
  rintro e w2 ⟨rfl, b2⟩
  have K2 := hid (a1.keep b2)
  have B2 := hid (below_all hb1 b2)
  clear b2 a1 hb1
  go_wp2_with (refine wpList_load_part rfl 87 _ rfl kb 0 rfl (keyV s index) _ (fun j v h => K2.out.cell _ _ (by rw [Nat.zero_add]; exact h)) Try.underlying87 rfl (by kernel_rfl) ?_)
  refine (HCUT.out w2).mono ?_
  rintro e w3 ⟨rfl, b3⟩
  have K3 := hid (K2.out.keep b3)
  have B3 := hid (below_all B2.out b3)
  clear b3 K2 B2
  go_wp2_with (refine wpList_store_arr rfl 87 _ _ rfl kb (keyV p index) rfl rfl _ _ K3.out (by kernel_rfl) rfl rfl ?_; intro w4 hw4; have K4 := hid (show arr w4 kb _ _ from hw4 ▸ K3.out.row _); have B4 := hid (show Below w.heap.size w w4 from hw4 ▸ below_setRow' B3.out (by rw [HKB.out]; exact Nat.le_refl _) _); clear hw4 K3 B3)
  refine (HDG.out w4).mono ?_
  rintro e w5 ⟨rfl, b5⟩
  have K5 := hid (K4.out.keep b5)
  have B5 := hid (below_all B4.out b5)
  have c0 := K5.out.cell 0 _ rfl
  have c1 := K5.out.cell 1 _ rfl
  have lk := K5.out.lt
  clear b5 K4 B4
  go_wp2_with fail
  refine (sign_any p HPL.out index HIX.out D HDL.out w5).mono ?_
  rintro e w6 ⟨v, rfl, o6, b6⟩
  obtain ⟨SG, hSG⟩ : ∃ SG, SG = sgn p index D := ⟨_, rfl⟩
  have hSl : SG.length = 67 := by rw [hSG]; exact sgn_len _ _ _
  have hsm : ∀ s ∈ SG, s.length = 32 := by rw [hSG]; exact sgn_mem_len _ _ _
  rw [← hSG] at o6
  obtain ⟨sb, sc, rfl, hsb, t6⟩ := ownS_txt o6 (by rw [hSl]; omega)
  rw [hSl]
  have hsc : 67 ≤ sc := by have := t6.cap; rw [hSl] at this; exact this
  have HSG := hid hSG
  have HSl := hid hSl
  have HSM := hid hsm
  have K6 := hid (K5.out.keep b6)
  have T6 := hid t6
  have B6 := hid (below_all B5.out b6)
  clear hSG hSl hsm o6 t6 b6 c0 c1 lk K5 B5
  go_wp2_with fail
  have hmax : ∀ s ∈ SG, s.length ≤ 9223372036854775807 := fun s hs => by rw [HSM.out s hs]; omega
  have hv6 := T6.out.strs hmax
  rw [HSl.out] at hv6
  clear hmax
  refine (recover_any SG _ D (by rw [HDL.out]; omega) w6 hv6).mono ?_
  rintro e w7 ⟨out, n, rfl, hrc, b7⟩
  obtain ⟨hout, hn⟩ := rcv_one hrc (show rcv SG D PB 0 from Or.inr (Or.inr ⟨HDL.out, HSl.out, HSM.out, by rw [HPBE.out, HSG.out, recv_sgn], rfl⟩))
  rw [hout, hn]
  clear hout hn
  have T7 := hid (T6.out.keep b7)
  have K7 := hid (K6.out.keep b7)
  have B7 := hid (below_all B6.out b7)
  clear b7 hv6 hrc T6 K6 B6
  go_wp2_with fail
  refine (digits_any D HDL.out w7).mono ?_
  rintro e w8 ⟨rfl, a8, b8'⟩
  obtain ⟨db, hdb⟩ : ∃ db, db = w7.heap.size := ⟨_, rfl⟩
  rw [← hdb] at a8
  rw [← hdb]
  have D8 := hid a8
  have T8 := hid (T7.out.keep b8')
  have K8 := hid (K7.out.keep b8')
  have B8 := hid (below_all B7.out b8')
  have c0 := K8.out.cell 0 _ rfl
  have c1 := K8.out.cell 1 _ rfl
  have lk := K8.out.lt
  clear a8 b8' hdb T7 K7 B7
  go_wp2_with fail
  refine (HPB.out w8).mono ?_
  rintro e w9 ⟨rfl, b9⟩
  have D9 := hid (D8.out.keep b9)
  have T9 := hid (T8.out.keep b9)
  have K9 := hid (K8.out.keep b9)
  have B9 := hid (below_all B8.out b9)
  clear c0 c1 lk b9 D8 T8 K8 B8
  obtain ⟨f, hf⟩ : ∃ f : Nat → List UInt8, f = fun i => wlk i 0 15 (scr p index i) := ⟨_, rfl⟩
  have hfl : ∀ i, (f i).length = 32 := fun i => by rw [hf]; exact wlk_len _ _ _ _ (scr_len _ _ _)
  have HF := hid hf
  have HFL := hid hfl
  have hpe : PB = hsh tPublic ((List.range 67).map f) := by rw [HPBE.out, hf]; rfl
  have HPE := hid hpe
  clear hf hfl hpe
  go_wp2_with fail
  go_loopw [11, 12] (fun u i wr => ∃ j : Nat, j ≤ 67 ∧ i = .int .i64 j ∧ ownS wr w9.heap.size u ((List.range j).map f) ∧ Below w9.heap.size w9 wr) (fun _ i _ => 67 - (intOf i).toNat)
  case atStart => exact ⟨0, by omega, rfl, ownS.nil _ _, Below.refl _ _⟩
  case round =>
    obtain ⟨j, hj67, rfl, ho, hb⟩ := hrel
    have HO := hid ho
    have HB := hid hb
    clear ho hb
    by_cases hj : j < 67
    · have hjI : (j : Int) < 67 := by omega
      obtain ⟨q, hq⟩ : ∃ q, q = scr p index j := ⟨_, rfl⟩
      obtain ⟨g, hg⟩ : ∃ g, g = (digs D).getD j 0 := ⟨_, rfl⟩
      have hg15 : g ≤ 15 := by rw [hg]; exact digs_get_le D j
      obtain ⟨x, hx⟩ : ∃ x, x = SG.getD j [] := ⟨_, rfl⟩
      have hx2 : x = wlk j 0 g q := by rw [hx, HSG.out, sgn_get _ _ _ _ hj, hg, hq]
      have hql : q.length = 32 := by rw [hq]; exact scr_len _ _ _
      have hxl : x.length = 32 := by rw [hx2]; exact wlk_len _ _ _ _ hql
      have hy : f j = wlk j 0 15 q := by rw [HF.out, hq]
      have hy2 : wlk j g 15 x = f j := by rw [hx2, hy, wlk_two _ _ _ _ _ (Nat.zero_le _) hg15]
      have HL1 : Hid (∀ W, Calls Try.prog 82 #[.int .i64 (j : Int), .int .i64 (g : Int), .int .i64 15, .string ⟨x.toArray⟩] W fun e w' => e = .returned (.string ⟨(f j).toArray⟩) ∧ Below W.heap.size W w') := hid fun W => by rw [← hy2]; exact walk_any j g 15 (by omega) hg15 (by omega) x (by omega) W
      have HL2 : Hid (∀ W, Calls Try.prog 82 #[.int .i64 (j : Int), .int .i64 0, .int .i64 (g : Int), .string ⟨q.toArray⟩] W fun e w' => e = .returned (.string ⟨x.toArray⟩) ∧ Below W.heap.size W w') := hid fun W => by rw [hx2]; exact walk_any j 0 g (by omega) (by omega) hg15 q (by omega) W
      have HL3 : Hid (∀ W, Calls Try.prog 82 #[.int .i64 (j : Int), .int .i64 0, .int .i64 15, .string ⟨q.toArray⟩] W fun e w' => e = .returned (.string ⟨(f j).toArray⟩) ∧ Below W.heap.size W w') := hid fun W => by rw [hy]; exact walk_any j 0 15 (by omega) (by omega) (by omega) q (by omega) W
      have HLS : Hid (∀ W, Calls Try.prog 83 #[.agg (keyV p index).toArray, .int .i64 (j : Int)] W fun e w' => e = .returned (.string ⟨q.toArray⟩) ∧ Below W.heap.size W w') := hid fun W => by rw [hq]; exact lsecret_any p HPL.out index j HIX.out (by omega) W
      have hK : ∀ X, Below w9.heap.size w9 X → X.cell? ⟨sb, j, none⟩ = some (.string ⟨x.toArray⟩) ∧ sb < X.heap.size ∧ X.cell? ⟨db, j, none⟩ = some (.int .i64 (g : Int)) ∧ db < X.heap.size ∧ arr X kb 87 (keyV p index) := fun X hX =>
        ⟨by rw [hx]; exact (T9.out.keep hX).cells j (by rw [HSl.out]; exact hj), (T9.out.keep hX).lt, by rw [hg]; exact (D9.out.keep hX).cell j _ (ics_get (digs D) j (by rw [digs_len]; exact hj)), (D9.out.keep hX).lt, K9.out.keep hX⟩
      have HK := hid hK
      clear hq hg hx hx2 hql hxl hy hy2 hK
      go_wp2_with fail
      have O0 := hid (row_below HO.out (Below.refl wr.heap.size wr).drew)
      have B0 := hid (below_all HB.out (Below.refl wr.heap.size wr).drew)
      clear HO HB
      refine wp_region_sq (fun X => X.cell? ⟨sb, j, none⟩ = some (.string ⟨x.toArray⟩) ∧ sb < X.heap.size ∧ X.cell? ⟨db, j, none⟩ = some (.int .i64 (g : Int)) ∧ db < X.heap.size ∧ arr X kb 87 (keyV p index)) [(true, 0), (true, 1), (true, 2), (true, 3), (true, 4), (true, 5), (true, 6), (true, 7), (true, 8)] 9 rfl (by kernel_rfl) (by kernel_rfl) (by kernel_rfl) (by decide) rfl (by kernel_rfl) (HK.out _ B0.out) ?_
      generalize World.drew wr = wa at O0 B0 ⊢
      refine sq_soft rfl (by kernel_rfl) (fun W hW => (by obtain ⟨hW1, hW2, hW3, hW4, hW5⟩ := hW; go_simp; try rfl)) ?_; go_frame
      refine sq_soft rfl (by kernel_rfl) (fun W hW => (by obtain ⟨hW1, hW2, hW3, hW4, hW5⟩ := hW; go_simp; try rfl)) ?_; go_frame
      refine sq_soft rfl (by kernel_rfl) (fun W hW => (by obtain ⟨hW1, hW2, hW3, hW4, hW5⟩ := hW; go_simp; try rfl)) ?_; go_frame
      refine sq_soft rfl (by kernel_rfl) (fun W hW => (by obtain ⟨hW1, hW2, hW3, hW4, hW5⟩ := hW; go_simp; try rfl)) ?_; go_frame
      refine sq_soft rfl (by kernel_rfl) (fun W hW => (by obtain ⟨hW1, hW2, hW3, hW4, hW5⟩ := hW; go_simp; try rfl)) ?_; go_frame
      refine sq_soft rfl (by kernel_rfl) (fun W hW => (by obtain ⟨hW1, hW2, hW3, hW4, hW5⟩ := hW; go_simp; try rfl)) ?_; go_frame
      refine sq_soft rfl (by kernel_rfl) (fun W hW => (by obtain ⟨hW1, hW2, hW3, hW4, hW5⟩ := hW; go_simp; try rfl)) ?_; go_frame
      refine sq_soft rfl (by kernel_rfl) (fun W hW => (by obtain ⟨hW1, hW2, hW3, hW4, hW5⟩ := hW; go_simp; try rfl)) ?_; go_frame
      refine sq_soft rfl (by kernel_rfl) (fun W hW => (by obtain ⟨hW1, hW2, hW3, hW4, hW5⟩ := hW; go_simp; try rfl)) ?_; go_frame
      refine sched_done ?_
      go_wp2_with fail
      refine (HL1.out wa).mono ?_
      rintro e wb ⟨rfl, bb⟩
      have O1 := hid (row_below (row_below O0.out bb) (Below.refl wb.heap.size wb).drew)
      have B1 := hid (below_all (below_all B0.out bb) (Below.refl wb.heap.size wb).drew)
      clear bb O0 B0
      go_wp2_with fail
      refine wp_region_sq (fun X => X.cell? ⟨sb, j, none⟩ = some (.string ⟨x.toArray⟩) ∧ sb < X.heap.size ∧ X.cell? ⟨db, j, none⟩ = some (.int .i64 (g : Int)) ∧ db < X.heap.size ∧ arr X kb 87 (keyV p index)) [(true, 0), (true, 1), (true, 2), (true, 3), (true, 4), (true, 5), (true, 6), (true, 7), (true, 8), (true, 9), (true, 10), (false, 11), (false, 12), (true, 13), (true, 14), (true, 15), (true, 16), (true, 17), (true, 18), (false, 19), (false, 20), (true, 21)] 22 rfl (by kernel_rfl) (by kernel_rfl) (by kernel_rfl) (by decide) rfl (by kernel_rfl) (HK.out _ B1.out) ?_
      generalize World.drew wb = w1 at O1 B1 ⊢
      refine sq_soft rfl (by kernel_rfl) (fun W hW => (by obtain ⟨hW1, hW2, hW3, hW4, hW5⟩ := hW; go_simp; try rfl)) ?_; go_frame
      refine sq_soft rfl (by kernel_rfl) (fun W hW => (by obtain ⟨hW1, hW2, hW3, hW4, hW5⟩ := hW; go_simp; try rfl)) ?_; go_frame
      refine sq_soft rfl (by kernel_rfl) (fun W hW => (by obtain ⟨hW1, hW2, hW3, hW4, hW5⟩ := hW; go_simp; try rfl)) ?_; go_frame
      refine sq_soft rfl (by kernel_rfl) (fun W hW => (by obtain ⟨hW1, hW2, hW3, hW4, hW5⟩ := hW; go_simp; try rfl)) ?_; go_frame
      refine sq_soft rfl (by kernel_rfl) (fun W hW => (by obtain ⟨hW1, hW2, hW3, hW4, hW5⟩ := hW; go_simp; try rfl)) ?_; go_frame
      refine sq_soft rfl (by kernel_rfl) (fun W hW => (by obtain ⟨hW1, hW2, hW3, hW4, hW5⟩ := hW; go_simp; try rfl)) ?_; go_frame
      refine sq_soft rfl (by kernel_rfl) (fun W hW => (by obtain ⟨hW1, hW2, hW3, hW4, hW5⟩ := hW; go_simp; try rfl)) ?_; go_frame
      refine sq_soft rfl (by kernel_rfl) (fun W hW => (by obtain ⟨hW1, hW2, hW3, hW4, hW5⟩ := hW; go_simp; try rfl)) ?_; go_frame
      refine sq_soft rfl (by kernel_rfl) (fun W hW => (by obtain ⟨hW1, hW2, hW3, hW4, hW5⟩ := hW; go_simp; try rfl)) ?_; go_frame
      refine sq_soft rfl (by kernel_rfl) (v := .agg (keyV p index).toArray) (fun W hW => (by obtain ⟨hW1, hW2, hW3, hW4, hW5⟩ := hW; exact exec_load_part 87 _ rfl kb 0 rfl _ _ (fun j v h => hW5.cell _ _ (by rw [Nat.zero_add]; exact h)) Try.underlying87 rfl (by kernel_rfl))) ?_; go_frame
      refine sq_soft rfl (by kernel_rfl) (fun W hW => (by obtain ⟨hW1, hW2, hW3, hW4, hW5⟩ := hW; go_simp; try rfl)) ?_; go_frame
      refine sq_op rfl (by kernel_rfl) ?_
      go_simp
      refine (HLS.out w1).mono ?_
      rintro e w2 ⟨rfl, b2⟩
      have O2 := hid (row_below O1.out b2)
      have B2 := hid (below_all B1.out b2)
      refine ⟨HK.out _ B2.out, ?_⟩
      clear b2 O1 B1
      try go_frame
      refine sq_op rfl (by kernel_rfl) ?_
      go_simp
      refine (HL2.out w2).mono ?_
      rintro e w3 ⟨rfl, b3⟩
      have O3 := hid (row_below O2.out b3)
      have B3 := hid (below_all B2.out b3)
      refine ⟨HK.out _ B3.out, ?_⟩
      clear b3 O2 B2
      try go_frame
      refine sq_soft rfl (by kernel_rfl) (fun W hW => (by obtain ⟨hW1, hW2, hW3, hW4, hW5⟩ := hW; go_simp; try rfl)) ?_; go_frame
      refine sq_soft rfl (by kernel_rfl) (fun W hW => (by obtain ⟨hW1, hW2, hW3, hW4, hW5⟩ := hW; go_simp; try rfl)) ?_; go_frame
      refine sq_soft rfl (by kernel_rfl) (fun W hW => (by obtain ⟨hW1, hW2, hW3, hW4, hW5⟩ := hW; go_simp; try rfl)) ?_; go_frame
      refine sq_soft rfl (by kernel_rfl) (fun W hW => (by obtain ⟨hW1, hW2, hW3, hW4, hW5⟩ := hW; go_simp; try rfl)) ?_; go_frame
      refine sq_soft rfl (by kernel_rfl) (v := .agg (keyV p index).toArray) (fun W hW => (by obtain ⟨hW1, hW2, hW3, hW4, hW5⟩ := hW; exact exec_load_part 87 _ rfl kb 0 rfl _ _ (fun j v h => hW5.cell _ _ (by rw [Nat.zero_add]; exact h)) Try.underlying87 rfl (by kernel_rfl))) ?_; go_frame
      refine sq_soft rfl (by kernel_rfl) (fun W hW => (by obtain ⟨hW1, hW2, hW3, hW4, hW5⟩ := hW; go_simp; try rfl)) ?_; go_frame
      refine sq_op rfl (by kernel_rfl) ?_
      go_simp
      refine (HLS.out w3).mono ?_
      rintro e w4 ⟨rfl, b4⟩
      have O4 := hid (row_below O3.out b4)
      have B4 := hid (below_all B3.out b4)
      refine ⟨HK.out _ B4.out, ?_⟩
      clear b4 O3 B3
      try go_frame
      refine sq_op rfl (by kernel_rfl) ?_
      go_simp
      refine (HL3.out w4).mono ?_
      rintro e w5 ⟨rfl, b5⟩
      have O5 := hid (row_below O4.out b5)
      have B5 := hid (below_all B4.out b5)
      refine ⟨HK.out _ B5.out, ?_⟩
      clear b5 O4 B4
      try go_frame
      refine sq_soft rfl (by kernel_rfl) (fun W hW => (by obtain ⟨hW1, hW2, hW3, hW4, hW5⟩ := hW; go_simp; try rfl)) ?_; go_frame
      refine sched_done ?_
      have hal : Below w5.heap.size w5 (w5.alloc (.cells #[.string ⟨(f j).toArray⟩] 9)) := (Below.refl _ _).alloc (Nat.le_refl _) _
      have O6 := hid (row_below O5.out hal)
      have B6 := hid (below_all B5.out hal)
      have N6 := hid (arr.new w5 9 (scs [f j]))
      clear hal
      go_wp2_with ((at_builtin; go_must (refine ownS_append rfl _ _ rfl w9.heap.size _ ((List.range j).map f) [f j] rfl O6.out w5.heap.size 0 1 rfl (by intro i hi; rw [Nat.zero_add]; exact N6.out.cell i _ (scs_get _ _ hi)) (by simp; omega) B6.out.size ?_); intro v7 w7 ho7 hg7; have O7 := hid ho7; have G7 := hid hg7; clear ho7 hg7))
      go_roundw
      case rel => exact ⟨j + 1, by omega, by go_num, by rw [range_map_succ]; exact O7.out, B6.out.grown G7.out B6.out.size (fun i hi => (row_lt O6.out i hi).1)⟩
      case measure => simp [intOf]; omega
    · obtain rfl : j = 67 := by omega
      have hjI : ¬ ((67 : Nat) : Int) < 67 := by omega
      have hll : ∀ s ∈ (List.range 67).map f, s.length = 32 := by
        intro s hs
        obtain ⟨i, _, rfl⟩ := List.mem_map.1 hs
        exact HFL.out i
      have HLL := hid hll
      have O3 := hid (HO.out.strs fun s hs => by rw [hll s hs]; omega)
      clear hll
      go_wp2_with fail
      refine (hash_any tPublic _ _ wr O3.out (by decide) (fparts67_le _ (by simp) HLL.out) (fun s hs => by rw [HLL.out s hs]; omega)).mono ?_
      rintro e w4 ⟨rfl, b4⟩
      rw [← HPE.out]
      have B4 := hid (below_all B9.out (below_all HB.out b4))
      clear b4 HB O3
      go_wp2
      go_ret
      exact ⟨rfl, B4.out⟩
end Go.Proofs.Ytcfohdkdppiekaa
