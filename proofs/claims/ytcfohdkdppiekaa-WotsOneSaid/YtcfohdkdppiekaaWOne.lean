/- WotsOne: the walk. -/
import Derived.Test.YtcfohdkdppiekaaWWorks13
namespace Go.Proofs.Ytcfohdkdppiekaa
open Go Go.RowKit Go.Proofs
attribute [local go_sem] Oper.semAt_some
set_option maxRecDepth 100000 in
set_option maxHeartbeats 2000000 in
theorem one_any (k : List UInt8 × Nat) (vk : Value) (hk : k.1.length ≤ 9223372036854775807 ∧ k.2 < 18446744073709551616 ∧ vk = .agg (keyV k.1 k.2).toArray) (d : List UInt8) (hd : d.length ≤ 9223372036854775807) (ot : Nat × List UInt8) (vo : Value) (hot : ot.1 < 256 ∧ ot.2.length ≤ 9223372036854775807 ∧ vo = .agg (otherV ot.1 ot.2).toArray) {w : World} :
    Calls Try.prog 20 #[vk, .string ⟨d.toArray⟩, vo] w fun e w' => e = .returned (.bool true) ∧ Below w.heap.size w w' := by
  obtain ⟨s, index⟩ := k
  obtain ⟨hsl, hix, rfl⟩ := hk
  obtain ⟨c, s2⟩ := ot
  obtain ⟨hc256, hs2, rfl⟩ := hot
  simp only [] at hsl hix hc256 hs2
  obtain ⟨a, ha⟩ : ∃ a, a = c % 67 := ⟨_, rfl⟩
  have ha67 : a < 67 := by omega
  have haI : (c : Int) % 67 = (a : Int) := by omega
  have haT : Int.tmod (c : Int) 67 = (a : Int) := by rw [Int.tmod_eq_emod_of_nonneg (by omega)]; omega
  obtain ⟨E, hE⟩ : ∃ p, p = padz s2 := ⟨_, rfl⟩
  have hEl : E.length = 32 := by rw [hE]; exact padz_len s2
  have HEG : Hid (∀ W, Calls Try.prog 80 #[.string ⟨s2.toArray⟩] W fun e w' => e = .returned (.string ⟨E.toArray⟩) ∧ Below W.heap.size W w') := hid fun W => by rw [hE]; exact dgst_any s2 hs2 W
  have HEL := hid hEl
  have HA := hid ha
  clear ha hE hEl
  obtain ⟨p, hp⟩ : ∃ p, p = s.take 100 := ⟨_, rfl⟩
  obtain ⟨D, hD⟩ : ∃ p, p = padz d := ⟨_, rfl⟩
  have hpl : p.length ≤ 1000 := by rw [hp, List.length_take]; omega
  have hDl : D.length = 32 := by rw [hD]; exact padz_len d
  have hix2 : index ≤ 18446744073709551615 := by omega
  have HCUT : Hid (∀ W, Calls Try.prog 79 #[.agg #[.string ⟨s.toArray⟩, .int .u64 (index : Int)]] W fun e w' => e = .returned (.agg #[.string ⟨p.toArray⟩, .int .u64 (index : Int)]) ∧ Below W.heap.size W w') := hid fun W => by rw [hp]; exact kcut_any s hsl index W
  have HDG : Hid (∀ W, Calls Try.prog 80 #[.string ⟨d.toArray⟩] W fun e w' => e = .returned (.string ⟨D.toArray⟩) ∧ Below W.heap.size W w') := hid fun W => by rw [hD]; exact dgst_any d hd W
  obtain ⟨PB, hPB⟩ : ∃ PB, PB = pub p index := ⟨_, rfl⟩
  have HPB : Hid (∀ W, Calls Try.prog 73 #[.string ⟨p.toArray⟩, .int .u64 (index : Int)] W fun e w' => e = .returned (.string ⟨PB.toArray⟩) ∧ Below W.heap.size W w') := hid fun W => by rw [hPB]; exact public_any p hpl index hix2 W
  have HPBE := hid hPB
  have HPL := hid hpl
  have HDL := hid hDl
  have HIX := hid hix2
  clear hp hD hpl hDl hPB hix2
  unfold keyV otherV
  go_enter Try.func20, Try.ntmps20
  go_wp2_with fail
  obtain ⟨w1, hw1⟩ : ∃ w1, w1 = (w.alloc (.cells (keyV s index).toArray 87)).alloc (.cells (otherV c s2).toArray 100) := ⟨_, rfl⟩
  have hb1 : Below w.heap.size w w1 := by rw [hw1]; exact ((Below.refl _ _).alloc (Nat.le_refl _) _).alloc (by simp) _
  have a1 : arr w1 w.heap.size 87 (keyV s index) := by rw [hw1]; exact (arr.new w _ _).alloc _
  have o1 : arr w1 (w.heap.size + 1) 100 (otherV c s2) := by rw [hw1]; exact arr.newAt _ _ _ _ (by simp)
  rw [show (w.alloc (.cells #[.string ⟨s.toArray⟩, .int .u64 (index : Int)] 87)).alloc (.cells #[.int .u8 (c : Int), .string ⟨s2.toArray⟩] 100) = w1 from hw1.symm]
  obtain ⟨ob, hob⟩ : ∃ ob, ob = w.heap.size + 1 := ⟨_, rfl⟩
  rw [← hob] at o1
  rw [← hob]
  obtain ⟨kb, hkb⟩ : ∃ kb, kb = w.heap.size := ⟨_, rfl⟩
  rw [← hkb] at a1
  rw [← hkb]
  have hko : ob ≠ kb := by omega
  have HKO := hid hko
  clear hob hko
  have HKB := hid hkb
  clear hw1 hkb
  refine (works13_any w1).mono ?_
  rintro e w2 ⟨rfl, b2⟩
  have K2 := hid (a1.keep b2)
  have P2 := hid (o1.keep b2)
  have B2 := hid (below_all hb1 b2)
  clear b2 a1 hb1
  go_wp2_with (refine wpList_load_part rfl 87 _ rfl kb 0 rfl (keyV s index) _ (fun j v h => K2.out.cell _ _ (by rw [Nat.zero_add]; exact h)) Try.underlying87 rfl (by kernel_rfl) ?_)
  refine (HCUT.out w2).mono ?_
  rintro e w3 ⟨rfl, b3⟩
  have K3 := hid (K2.out.keep b3)
  have P3 := hid ((P2.out).keep b3)
  have B3 := hid (below_all B2.out b3)
  clear b3 K2 B2
  go_wp2_with (refine wpList_store_arr rfl 87 _ _ rfl kb (keyV p index) rfl rfl _ _ K3.out (by kernel_rfl) rfl rfl ?_; intro w4 hw4; have K4 := hid (show arr w4 kb _ _ from hw4 ▸ K3.out.row _); have B4 := hid (show Below w.heap.size w w4 from hw4 ▸ below_setRow' B3.out (by rw [HKB.out]; exact Nat.le_refl _) _); have P4 := hid (show arr w4 ob _ _ from hw4 ▸ P3.out.rowOther HKO.out _); clear hw4 K3 B3)
  refine (HDG.out w4).mono ?_
  rintro e w5 ⟨rfl, b5⟩
  have K5 := hid (K4.out.keep b5)
  have P5 := hid ((P4.out).keep b5)
  have B5 := hid (below_all B4.out b5)
  have c0 := K5.out.cell 0 _ rfl
  have c1 := K5.out.cell 1 _ rfl
  have lk := K5.out.lt
  clear b5 K4 B4
  go_wp2_with fail
  refine (sign_any p HPL.out index HIX.out D HDL.out w5).mono ?_
  rintro e w6 ⟨v, rfl, o6, b6⟩
  obtain ⟨SG, hSG⟩ : ∃ SG, SG = sgn p index D := ⟨_, rfl⟩
  have hSl : SG.length = 67 := by rw [hSG]; exact sgn_len _ _ _
  have hsm : ∀ s ∈ SG, s.length = 32 := by rw [hSG]; exact sgn_mem_len _ _ _
  rw [← hSG] at o6
  obtain ⟨sb, sc, rfl, hsb, t6⟩ := ownS_txt o6 (by rw [hSl]; omega)
  rw [hSl]
  have hsc : 67 ≤ sc := by have := t6.cap; rw [hSl] at this; exact this
  have HSG := hid hSG
  have HSl := hid hSl
  have HSM := hid hsm
  have K6 := hid (K5.out.keep b6)
  have T6 := hid t6
  have P6 := hid ((P5.out).keep b6)
  have B6 := hid (below_all B5.out b6)
  clear hSG hSl hsm o6 t6 b6 c0 c1 lk K5 B5
  go_wp2_with fail
  refine (digits_any D HDL.out w6).mono ?_
  rintro e w8 ⟨rfl, a8, b8'⟩
  obtain ⟨db, hdb⟩ : ∃ db, db = w6.heap.size := ⟨_, rfl⟩
  rw [← hdb] at a8
  rw [← hdb]
  have D8 := hid a8
  have T8 := hid (T6.out.keep b8')
  have K8 := hid (K6.out.keep b8')
  have P8 := hid (P6.out.keep b8')
  have B8 := hid (below_all B6.out b8')
  have c0 := P8.out.cell 0 _ rfl
  have c1 := P8.out.cell 1 _ rfl
  have lk := P8.out.lt
  clear a8 b8' hdb T6 K6 P6 B6
  have hal : Below w8.heap.size w8 (w8.alloc (.cells #[] 9)) := (Below.refl _ _).alloc (Nat.le_refl _) _
  have hmax : ∀ s ∈ SG, s.length ≤ 9223372036854775807 := fun s hs => by rw [HSM.out s hs]; omega
  have T9 := hid (T8.out.keep hal)
  have K9 := hid (K8.out.keep hal)
  have P9 := hid (P8.out.keep hal)
  have D9 := hid (D8.out.keep hal)
  have B9 := hid (below_all B8.out hal)
  have V9 : Hid (strsAt (w8.alloc (.cells #[] 9)) (w8.alloc (.cells #[] 9)).heap.size (.slice (some ⟨sb, 0, none⟩) 67 sc) SG) := hid (by have := T9.out.strs hmax; rwa [HSl.out] at this)
  have O9 := hid (ownS.lit w8 w8.heap.size [] (Nat.le_refl _) (by simp))
  clear hal hmax
  go_wp2_with ((at_builtin; go_must (refine wpList_appendS rfl _ _ rfl w8.heap.size _ _ [] SG rfl O9.out _ rfl V9.out (by rw [HSl.out]; simp) (by simp) ?_); intro v10 w10 ho10 hg10; rw [List.nil_append] at ho10; obtain ⟨hb, hcp, rfl, hbb, t10⟩ := ownS_txt ho10 (by rw [HSl.out]; omega); have hcap := t10.cap; rw [HSl.out] at hcap ⊢; have HG10 := hid hg10; have T10 := hid t10; have HO10 := hid ho10; clear hg10 t10 ho10; have hne : ∀ y, y < w8.heap.size → some y ≠ some w8.heap.size := (fun y hy e => by injection e with e; omega); have P10 := hid (show arr w10 ob 100 (otherV c s2) from (by have h := P9.out; have l := P8.out.lt; unfold Go.Proofs.Ytcfohdkdppiekaa.arr at *; rw [HG10.out.block ob (by simp; omega) (hne _ l)]; exact h)); have d0 := P10.out.cell 0 _ rfl; have d1 := P10.out.cell 1 _ rfl; have lp := P10.out.lt; have K10 := hid (show arr w10 kb 87 (keyV p index) from (by have h := K9.out; have l := K8.out.lt; unfold Go.Proofs.Ytcfohdkdppiekaa.arr at *; rw [HG10.out.block kb (by simp; omega) (hne _ l)]; exact h)); have D10 := hid (show arr w10 db 175 (ics (digs D)) from (by have h := D9.out; have l := D8.out.lt; unfold Go.Proofs.Ytcfohdkdppiekaa.arr at *; rw [HG10.out.block db (by simp; omega) (hne _ l)]; exact h)); have B10 := hid (B9.out.grown HG10.out B9.out.size (fun k hk => by have hk2 : some w8.heap.size = some k := hk; injection hk2 with hk3; have := B8.out.size; omega)); clear hne))
  refine (HEG.out w10).mono ?_
  rintro e w11 ⟨rfl, b11⟩
  have T11 := hid (T10.out.keep b11)
  have K11 := hid (K10.out.keep b11)
  have D11 := hid (D10.out.keep b11)
  have B11 := hid (below_all B10.out b11)
  have haL : a < SG.length := by rw [HSl.out]; exact ha67
  have ca := T11.out.cells a haL
  have fa := T11.out.free a
  have lh := T11.out.lt
  have haI2 : (a : Int) < 67 := by omega
  have hkb : hb ≠ kb := by have := K8.out.lt; omega
  have hdb : hb ≠ db := by have := D8.out.lt; omega
  have hwb : w.heap.size ≤ hb := by have := B8.out.size; omega
  have HKBN := hid hkb
  have HDBN := hid hdb
  clear d0 d1 lp c0 c1 lk b11 T10 K10 P10 D10 B10 HG10 HO10 T9 K9 P9 D9 B9 V9 O9 T8 K8 P8 D8 B8 hkb hdb haL
  go_wp2_with fail
  obtain ⟨TR, hTR⟩ : ∃ TR, TR = SG.set a E := ⟨_, rfl⟩
  have hTl : TR.length = 67 := by rw [hTR, List.length_set, HSl.out]
  have hTm : ∀ s ∈ TR, s.length = 32 := by
    rw [hTR]
    intro s hs
    rcases List.mem_or_eq_of_mem_set hs with h | h
    · exact HSM.out s h
    · rw [h]; exact HEL.out
  have T12 : Hid (txtAt (w11.setCell ⟨hb, a, none⟩ (.string ⟨E.toArray⟩)) hb TR hcp) := hid (by rw [hTR]; exact T11.out.set a (by rw [HSl.out]; exact ha67) E)
  have K12 := hid (K11.out.other ⟨hb, a, none⟩ HKBN.out (.string ⟨E.toArray⟩))
  have D12 := hid (D11.out.other ⟨hb, a, none⟩ HDBN.out (.string ⟨E.toArray⟩))
  have B12 := hid (B11.out.setCell (p := ⟨hb, a, none⟩) hwb (.string ⟨E.toArray⟩))
  have HTR := hid hTR
  have HTL := hid hTl
  have HTM := hid hTm
  clear hTR hTl hTm ca fa lh T11 K11 D11 B11
  generalize w11.setCell ⟨hb, a, none⟩ (.string ⟨E.toArray⟩) = w12 at T12 K12 D12 B12 ⊢
  obtain ⟨f, hf⟩ : ∃ f : Nat → List UInt8, f = fun i => wlk i ((digs D).getD i 0) 15 (TR.getD i []) := ⟨_, rfl⟩
  have HF := hid hf
  clear hf
  go_loopw [13, 14] (fun u i wr => ∃ j : Nat, j ≤ 67 ∧ i = .int .i64 j ∧ ownS wr w12.heap.size u ((List.range j).map f) ∧ Below w12.heap.size w12 wr) (fun _ i _ => 67 - (intOf i).toNat)
  case atStart => exact ⟨0, by omega, rfl, ownS.nil _ _, Below.refl _ _⟩
  case round =>
    obtain ⟨j, hj67, rfl, ho, hb2⟩ := hrel
    have HO := hid ho
    have HB := hid hb2
    clear ho hb2
    by_cases hj : j < 67
    · have hjI : (j : Int) < 67 := by omega
      obtain ⟨g, hg⟩ : ∃ g, g = (digs D).getD j 0 := ⟨_, rfl⟩
      have hg15 : g ≤ 15 := by rw [hg]; exact digs_get_le D j
      obtain ⟨x, hx⟩ : ∃ x, x = TR.getD j [] := ⟨_, rfl⟩
      have hxl : x.length = 32 := HTM.out x (by rw [hx, List.getD_eq_getElem?_getD, List.getElem?_eq_getElem (by rw [HTL.out]; exact hj)]; exact List.getElem_mem _)
      have hy : f j = wlk j g 15 x := by rw [HF.out, hg, hx]
      have HL1 : Hid (∀ W, Calls Try.prog 82 #[.int .i64 (j : Int), .int .i64 (g : Int), .int .i64 15, .string ⟨x.toArray⟩] W fun e w' => e = .returned (.string ⟨(f j).toArray⟩) ∧ Below W.heap.size W w') := hid fun W => by rw [hy]; exact walk_any j g 15 (by omega) hg15 (by omega) x (by omega) W
      have hK : ∀ X, Below w12.heap.size w12 X → X.cell? ⟨hb, j, none⟩ = some (.string ⟨x.toArray⟩) ∧ hb < X.heap.size ∧ X.cell? ⟨db, j, none⟩ = some (.int .i64 (g : Int)) ∧ db < X.heap.size := fun X hX =>
        ⟨by rw [hx]; exact (T12.out.keep hX).cells j (by rw [HTL.out]; exact hj), (T12.out.keep hX).lt, by rw [hg]; exact (D12.out.keep hX).cell j _ (ics_get (digs D) j (by rw [digs_len]; exact hj)), (D12.out.keep hX).lt⟩
      have HK := hid hK
      clear hg hx hxl hy hK
      go_wp2_with fail
      have O0 := hid (row_below HO.out (Below.refl wr.heap.size wr).drew)
      have B0 := hid (below_all HB.out (Below.refl wr.heap.size wr).drew)
      clear HO HB
      refine wp_region_sq (fun X => X.cell? ⟨hb, j, none⟩ = some (.string ⟨x.toArray⟩) ∧ hb < X.heap.size ∧ X.cell? ⟨db, j, none⟩ = some (.int .i64 (g : Int)) ∧ db < X.heap.size) [(true, 0), (true, 1), (true, 2), (true, 3), (true, 4), (true, 5), (true, 6), (true, 7), (true, 8), (true, 9), (false, 10), (false, 11)] 12 rfl (by kernel_rfl) (by kernel_rfl) (by kernel_rfl) (by decide) rfl (by kernel_rfl) (HK.out _ B0.out) ?_
      generalize World.drew wr = w0 at O0 B0 ⊢
      refine sq_soft rfl (by kernel_rfl) (fun W hW => (by obtain ⟨hW1, hW2, hW3, hW4⟩ := hW; go_simp; try rfl)) ?_; go_frame
      refine sq_soft rfl (by kernel_rfl) (fun W hW => (by obtain ⟨hW1, hW2, hW3, hW4⟩ := hW; go_simp; try rfl)) ?_; go_frame
      refine sq_soft rfl (by kernel_rfl) (fun W hW => (by obtain ⟨hW1, hW2, hW3, hW4⟩ := hW; go_simp; try rfl)) ?_; go_frame
      refine sq_soft rfl (by kernel_rfl) (fun W hW => (by obtain ⟨hW1, hW2, hW3, hW4⟩ := hW; go_simp; try rfl)) ?_; go_frame
      refine sq_soft rfl (by kernel_rfl) (fun W hW => (by obtain ⟨hW1, hW2, hW3, hW4⟩ := hW; go_simp; try rfl)) ?_; go_frame
      refine sq_soft rfl (by kernel_rfl) (fun W hW => (by obtain ⟨hW1, hW2, hW3, hW4⟩ := hW; go_simp; try rfl)) ?_; go_frame
      refine sq_soft rfl (by kernel_rfl) (fun W hW => (by obtain ⟨hW1, hW2, hW3, hW4⟩ := hW; go_simp; try rfl)) ?_; go_frame
      refine sq_soft rfl (by kernel_rfl) (fun W hW => (by obtain ⟨hW1, hW2, hW3, hW4⟩ := hW; go_simp; try rfl)) ?_; go_frame
      refine sq_soft rfl (by kernel_rfl) (fun W hW => (by obtain ⟨hW1, hW2, hW3, hW4⟩ := hW; go_simp; try rfl)) ?_; go_frame
      refine sq_soft rfl (by kernel_rfl) (fun W hW => (by obtain ⟨hW1, hW2, hW3, hW4⟩ := hW; go_simp; try rfl)) ?_; go_frame
      refine sq_op rfl (by kernel_rfl) ?_
      go_simp
      refine (HL1.out w0).mono ?_
      rintro e w4 ⟨rfl, b4⟩
      have O4 := hid (row_below O0.out b4)
      have B4 := hid (below_all B0.out b4)
      refine ⟨HK.out _ B4.out, ?_⟩
      clear b4 O0 B0
      try go_frame
      refine sq_op rfl (by kernel_rfl) ?_
      go_simp
      obtain ⟨w5, hw5⟩ : ∃ w5, w5 = w4.alloc (.cells #[.string ⟨(f j).toArray⟩] 9) := ⟨_, rfl⟩
      have hal : Below w4.heap.size w4 w5 := by rw [hw5]; exact (Below.refl _ _).alloc (Nat.le_refl _) _
      have O5 := hid (row_below O4.out hal)
      have B5 := hid (below_all B4.out hal)
      have N5 := hid (show arr w5 w4.heap.size 9 (scs [f j]) by rw [hw5]; exact arr.new w4 _ _)
      have hsz5 : w4.heap.size + 1 = w5.heap.size := by rw [hw5]; simp
      rw [← hw5]
      try rw [hsz5]
      refine ⟨HK.out _ B5.out, ?_⟩
      clear hal hw5 hsz5 O4 B4
      try go_frame
      refine sched_done ?_
      go_wp2_with ((at_builtin; go_must (refine ownS_append rfl _ _ rfl w12.heap.size _ ((List.range j).map f) [f j] rfl O5.out w4.heap.size 0 1 rfl (by intro i hi; rw [Nat.zero_add]; exact N5.out.cell i _ (scs_get _ _ hi)) (by simp; omega) B5.out.size ?_); intro v7 w7 ho7 hg7; have O7 := hid ho7; have G7 := hid hg7; clear ho7 hg7))
      go_roundw
      case rel => exact ⟨j + 1, by omega, by go_num, by rw [range_map_succ]; exact O7.out, B5.out.grown G7.out B5.out.size (fun i hi => (row_lt O5.out i hi).1)⟩
      case measure => simp [intOf]; omega
    · obtain rfl : j = 67 := by omega
      have hjI : ¬ ((67 : Nat) : Int) < 67 := by omega
      have hends : (List.range 67).map f = endsOf TR D := by rw [HF.out]; rfl
      obtain ⟨EN, hEN⟩ : ∃ EN, EN = endsOf TR D := ⟨_, rfl⟩
      rw [hends, ← hEN] at HO
      have hll : ∀ s ∈ EN, s.length = 32 := by rw [hEN]; exact endsOf_32 TR HTL.out HTM.out D
      have HLL := hid hll
      have HEN67 : Hid (EN.length = 67) := hid (by rw [hEN]; exact endsOf_len TR D)
      obtain ⟨R1, hR1⟩ : ∃ R1, R1 = recv TR D := ⟨_, rfl⟩
      have HR1 : Hid (hsh tPublic EN = R1) := hid (by rw [hR1, hEN]; rfl)
      have HHS : Hid (∀ W v, strsAt W W.heap.size v EN → Calls Try.prog 42 #[.string ⟨#[112, 117, 98, 108, 105, 99]⟩, v] W fun e w' => e = .returned (.string ⟨R1.toArray⟩) ∧ Below W.heap.size W w') := hid fun W v hv => by rw [← HR1.out]; exact hash_any tPublic EN v W hv (by decide) (fparts67_le _ HEN67.out HLL.out) (fun s hs => by rw [HLL.out s hs]; omega)
      have T13 := hid (T12.out.keep HB.out)
      have K13 := hid (K12.out.keep HB.out)
      have D13 := hid (D12.out.keep HB.out)
      have B13 := hid (below_all B12.out HB.out)
      have HBS := hid HB.out.size
      have HHB := hid T12.out.lt
      have HRR : Hid (rcv TR D R1 0) := hid (Or.inr (Or.inr ⟨HDL.out, HTL.out, HTM.out, hR1, rfl⟩))
      have hv13 := T13.out.strs (fun s hs => by rw [HTM.out s hs]; omega)
      rw [HTL.out] at hv13
      have HV13 := hid hv13
      clear hv13 hll hR1 hEN hends T12 K12 D12 B12 HB
      go_wp2_with fail
      refine (recover_any TR _ D (by rw [HDL.out]; omega) wr HV13.out).mono ?_
      rintro e w14 ⟨out, n, rfl, hrc, b14⟩
      obtain ⟨hout, hn⟩ := rcv_one hrc HRR.out
      rw [hout, hn]
      have T14 := hid (T13.out.keep b14)
      have K14 := hid (K13.out.keep b14)
      have D14 := hid (D13.out.keep b14)
      have O14 := hid (row_below HO.out b14)
      have B14 := hid (below_all B13.out b14)
      clear hout hn hrc b14 HV13 T13 K13 D13 B13 HO
      go_wp2_with fail
      obtain ⟨q0, hq0⟩ : ∃ q, q = scr p index a := ⟨_, rfl⟩
      obtain ⟨g0, hg0⟩ : ∃ g, g = (digs D).getD a 0 := ⟨_, rfl⟩
      have hg15 : g0 ≤ 15 := by rw [hg0]; exact digs_get_le D a
      obtain ⟨x0, hx0⟩ : ∃ x, x = SG.getD a [] := ⟨_, rfl⟩
      have hx02 : x0 = wlk a 0 g0 q0 := by rw [hx0, HSG.out, sgn_get _ _ _ _ ha67, hg0, hq0]
      have hql : q0.length = 32 := by rw [hq0]; exact scr_len _ _ _
      have HL0 : Hid (∀ W, Calls Try.prog 82 #[.int .i64 (a : Int), .int .i64 0, .int .i64 (g0 : Int), .string ⟨q0.toArray⟩] W fun e w' => e = .returned (.string ⟨x0.toArray⟩) ∧ Below W.heap.size W w') := hid fun W => by rw [hx02]; exact walk_any a 0 g0 (by omega) (by omega) hg15 q0 (by omega) W
      have HLS : Hid (∀ W, Calls Try.prog 83 #[.agg (keyV p index).toArray, .int .i64 (a : Int)] W fun e w' => e = .returned (.string ⟨q0.toArray⟩) ∧ Below W.heap.size W w') := hid fun W => by rw [hq0]; exact lsecret_any p HPL.out index a HIX.out (by omega) W
      have hK : ∀ X, Below w14.heap.size w14 X → X.cell? ⟨db, a, none⟩ = some (.int .i64 (g0 : Int)) ∧ db < X.heap.size ∧ arr X kb 87 (keyV p index) := fun X hX =>
        ⟨by rw [hg0]; exact (D14.out.keep hX).cell a _ (ics_get (digs D) a (by rw [digs_len]; exact ha67)), (D14.out.keep hX).lt, K14.out.keep hX⟩
      have HK := hid hK
      have hback : TR.set a x0 = SG := by
        rw [HTR.out, List.set_set, hx0]
        apply List.ext_getElem?
        intro i
        by_cases hia : i = a
        · subst hia
          rw [List.getElem?_set_self (by rw [HSl.out]; exact ha67), List.getD_eq_getElem?_getD, List.getElem?_eq_getElem (by rw [HSl.out]; exact ha67)]; rfl
        · rw [List.getElem?_set_ne (fun q => hia q.symm)]
      have HBACK := hid hback
      clear hq0 hg0 hg15 hx0 hx02 hql hK hback
      have B0 := hid ((Below.refl w14.heap.size w14).drew)
      refine wp_region_sq (fun X => X.cell? ⟨db, a, none⟩ = some (.int .i64 (g0 : Int)) ∧ db < X.heap.size ∧ arr X kb 87 (keyV p index)) [(true, 0), (true, 1), (true, 2), (true, 3), (true, 4), (true, 5), (true, 6), (true, 7), (true, 8), (false, 9), (false, 10)] 11 rfl (by kernel_rfl) (by kernel_rfl) (by kernel_rfl) (by decide) rfl (by kernel_rfl) (HK.out _ B0.out) ?_
      generalize World.drew w14 = w0 at B0 ⊢
      refine sq_soft rfl (by kernel_rfl) (fun W hW => (by obtain ⟨hW1, hW2, hW5⟩ := hW; go_simp; try rfl)) ?_; go_frame
      refine sq_soft rfl (by kernel_rfl) (fun W hW => (by obtain ⟨hW1, hW2, hW5⟩ := hW; go_simp; try rfl)) ?_; go_frame
      refine sq_soft rfl (by kernel_rfl) (fun W hW => (by obtain ⟨hW1, hW2, hW5⟩ := hW; go_simp; try rfl)) ?_; go_frame
      refine sq_soft rfl (by kernel_rfl) (fun W hW => (by obtain ⟨hW1, hW2, hW5⟩ := hW; go_simp; try rfl)) ?_; go_frame
      refine sq_soft rfl (by kernel_rfl) (fun W hW => (by obtain ⟨hW1, hW2, hW5⟩ := hW; go_simp; try rfl)) ?_; go_frame
      refine sq_soft rfl (by kernel_rfl) (fun W hW => (by obtain ⟨hW1, hW2, hW5⟩ := hW; go_simp; try rfl)) ?_; go_frame
      refine sq_soft rfl (by kernel_rfl) (fun W hW => (by obtain ⟨hW1, hW2, hW5⟩ := hW; go_simp; try rfl)) ?_; go_frame
      refine sq_soft rfl (by kernel_rfl) (v := .agg (keyV p index).toArray) (fun W hW => (by obtain ⟨hW1, hW2, hW5⟩ := hW; exact exec_load_part 87 _ rfl kb 0 rfl _ _ (fun j v h => hW5.cell _ _ (by rw [Nat.zero_add]; exact h)) Try.underlying87 rfl (by kernel_rfl))) ?_; go_frame
      refine sq_soft rfl (by kernel_rfl) (fun W hW => (by obtain ⟨hW1, hW2, hW5⟩ := hW; go_simp; try rfl)) ?_; go_frame
      refine sq_op rfl (by kernel_rfl) ?_
      go_simp
      refine (HLS.out w0).mono ?_
      rintro e w15 ⟨rfl, b15⟩
      have B15 := hid (below_all B0.out b15)
      refine ⟨HK.out _ B15.out, ?_⟩
      clear b15 B0
      try go_frame
      refine sq_op rfl (by kernel_rfl) ?_
      go_simp
      refine (HL0.out w15).mono ?_
      rintro e w16 ⟨rfl, b16⟩
      have B16 := hid (below_all B15.out b16)
      refine ⟨HK.out _ B16.out, ?_⟩
      clear b16 B15
      try go_frame
      refine sched_done ?_
      have K16 := hid ((HK.out _ B16.out).2.2)
      have T16 := hid (T14.out.keep B16.out)
      have O16 := hid (row_below O14.out B16.out)
      have BW16 := hid (below_all B14.out B16.out)
      have ca := T16.out.cells a (by rw [HTL.out]; exact ha67)
      have fa := T16.out.free a
      have lh := T16.out.lt
      clear T14 O14 B14 K14 D14 B16
      go_wp2_with fail
      have T17 : Hid (txtAt (w16.setCell ⟨hb, a, none⟩ (.string ⟨x0.toArray⟩)) hb SG hcp) := hid (by rw [← HBACK.out]; exact T16.out.set a (by rw [HTL.out]; exact ha67) x0)
      have K17 := hid (K16.out.other ⟨hb, a, none⟩ HKBN.out (.string ⟨x0.toArray⟩))
      have B17 := hid (BW16.out.setCell (p := ⟨hb, a, none⟩) hwb (.string ⟨x0.toArray⟩))
      have O17 : Hid (ownS (w16.setCell ⟨hb, a, none⟩ (.string ⟨x0.toArray⟩)) w12.heap.size _ EN) := hid (ownS.grown O16.out (grown_set (grown_below (Below.refl w16.heap.size w16)) a _) HHB.out)
      clear ca fa lh T16 O16 BW16 K16
      generalize w16.setCell ⟨hb, a, none⟩ (.string ⟨x0.toArray⟩) = w17 at T17 B17 O17 K17 ⊢
      have hv17 := T17.out.strs (fun s hs => by rw [HSM.out s hs]; omega)
      rw [HSl.out] at hv17
      refine (recover_any SG _ D (by rw [HDL.out]; omega) w17 hv17).mono ?_
      rintro e w18 ⟨out2, n2, rfl, hrc, b18⟩
      obtain ⟨hout, hn⟩ := rcv_one hrc (show rcv SG D PB 0 from Or.inr (Or.inr ⟨HDL.out, HSl.out, HSM.out, by rw [HPBE.out, HSG.out, recv_sgn], rfl⟩))
      rw [hout, hn]
      have O18 := hid (row_below O17.out b18)
      have K18 := hid (K17.out.keep b18)
      have B18 := hid (below_all B17.out b18)
      clear hout hn hrc b18 hv17 T17 O17 B17 K17
      go_wp2_with fail
      have hv18 := ownS.strs O18.out (fun s hs => by rw [HLL.out s hs]; omega)
      refine (HHS.out w18 _ hv18).mono ?_
      rintro e w19 ⟨rfl, b19⟩
      have B19 := hid (below_all B18.out b19)
      have K19 := hid (K18.out.keep b19)
      have c0 := K19.out.cell 0 _ rfl
      have c1 := K19.out.cell 1 _ rfl
      have lk := K19.out.lt
      clear b19 hv18 O18 B18 K18
      go_wp2_with fail
      refine (HPB.out w19).mono ?_
      rintro e w20 ⟨rfl, b20⟩
      have B20 := hid (below_all B19.out b20)
      clear b20 B19 K19 c0 c1 lk
      go_wp2
      go_ret
      exact ⟨rfl, B20.out⟩
end Go.Proofs.Ytcfohdkdppiekaa
