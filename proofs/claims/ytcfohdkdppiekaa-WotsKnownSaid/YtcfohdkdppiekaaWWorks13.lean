/- law13's works: it is true. -/
import Derived.Test.YtcfohdkdppiekaaWotKit
namespace Go.Proofs.Ytcfohdkdppiekaa
open Go Go.RowKit Go.Proofs
attribute [local go_sem] Oper.semAt_some
def z32 : List UInt8 := List.replicate 32 0
theorem z32_0 : (digs z32).getD 0 0 = 0 := by decide +kernel
theorem z32_66 : (digs z32).getD 66 0 = 0 := by decide +kernel
theorem bcs_z : bcs (List.replicate 32 0) = bcs z32 := rfl
set_option maxRecDepth 100000 in
set_option maxHeartbeats 1000000 in
theorem works13_any (w : World) : Calls Try.prog 76 #[] w fun e w' => e = .returned (.bool true) ∧ Below w.heap.size w w' := by
  obtain ⟨sd, hsd⟩ : ∃ sd : List UInt8, sd = [115] := ⟨_, rfl⟩
  obtain ⟨Z, hZ⟩ : ∃ Z : List UInt8, Z = List.replicate 32 0 := ⟨_, rfl⟩
  have hZl : Z.length = 32 := by rw [hZ]; simp
  have HZL := hid hZl
  have HZ := hid hZ
  have HSD := hid hsd
  have HSL := hid (show sd.length ≤ 1000 by rw [hsd]; simp)
  have hd0 : (digs Z).getD 0 0 = 0 := by rw [hZ]; exact z32_0
  have hd66 : (digs Z).getD 66 0 = 0 := by rw [hZ]; exact z32_66
  have HD0 := hid hd0
  have HD66 := hid hd66
  obtain ⟨s0, hq0⟩ : ∃ s, s = scr [115] 3 0 := ⟨_, rfl⟩
  obtain ⟨s66, hq66⟩ : ∃ s, s = scr [115] 3 66 := ⟨_, rfl⟩
  have HQ0 := hid hq0
  have HQ66 := hid hq66
  have HL0 : Hid (∀ W, Calls Try.prog 83 #[.agg (keyV [115] 3).toArray, .int .i64 0] W fun e w' => e = .returned (.string ⟨s0.toArray⟩) ∧ Below W.heap.size W w') := hid fun W => by rw [hq0]; exact lsecret_any [115] (by simp) 3 0 (by omega) (by omega) W
  have HL66 : Hid (∀ W, Calls Try.prog 83 #[.agg (keyV [115] 3).toArray, .int .i64 66] W fun e w' => e = .returned (.string ⟨s66.toArray⟩) ∧ Below W.heap.size W w') := hid fun W => by rw [hq66]; exact lsecret_any [115] (by simp) 3 66 (by omega) (by omega) W
  obtain ⟨PB, hPB⟩ : ∃ PB, PB = pub [115] 3 := ⟨_, rfl⟩
  have HPBE := hid hPB
  have HPB : Hid (∀ W, Calls Try.prog 73 #[.string ⟨#[115]⟩, .int .u64 3] W fun e w' => e = .returned (.string ⟨PB.toArray⟩) ∧ Below W.heap.size W w') := hid fun W => by rw [hPB]; exact public_any [115] (by simp) 3 (by omega) W
  clear hZ hsd hZl hd0 hd66 hq0 hq66 hPB
  go_enter Try.func76, Try.ntmps76
  go_wp2_with (first | (refine wpList_zerosA rfl _ _ rfl 32 rfl rfl (by omega) ?_; intro w1 hA hb1 hlt1; have HA := hid hA; have HB := hid hb1; have HL := hid hlt1; clear hA hb1 hlt1) | (rw [← HZ.out] at HA; refine wpList_b2s rfl _ rfl _ 0 32 32 Z rfl HZL.out (arr_cells HA.out 0) ?_))
  have hE0 : (w.alloc (.cells (keyV [115] 3).toArray 87)).heap.size = w.heap.size + 1 := by simp
  have hK0 : arr (w.alloc (.cells (keyV [115] 3).toArray 87)) w.heap.size 87 (keyV [115] 3) := arr.new w _ _
  have K1 : Hid (arr w1 w.heap.size 87 (keyV [115] 3)) := hid (hK0.keep HB.out)
  have B1 : Hid (Below w.heap.size w w1) := hid (((Below.refl w.heap.size w).alloc (Nat.le_refl _) _).trans (HB.out.mono (by simp)))
  clear hE0 hK0 HA HB HL
  obtain ⟨kb, hkb⟩ : ∃ kb, kb = w.heap.size := ⟨_, rfl⟩
  have HKB := hid hkb
  rw [show Value.pointer (some ⟨w.heap.size, 0, none⟩) = Value.pointer (some ⟨kb, 0, none⟩) from by rw [hkb]]
  have K1' : Hid (arr w1 kb 87 (keyV [115] 3)) := hid (by rw [hkb]; exact K1.out)
  clear K1 hkb
  refine (sign_any [115] (by simp) 3 (by omega) Z HZL.out w1).mono ?_
  rintro e w2 ⟨v, rfl, o2, b2⟩
  obtain ⟨SG, hSG⟩ : ∃ SG, SG = sgn [115] 3 Z := ⟨_, rfl⟩
  have hSl : SG.length = 67 := by rw [hSG]; exact sgn_len _ _ _
  have hs0 : SG.getD 0 [] = s0 := by rw [HQ0.out, hSG, sgn_get _ _ _ _ (by omega), HD0.out]; exact wlk_same _ _ _
  have hs66 : SG.getD 66 [] = s66 := by rw [HQ66.out, hSG, sgn_get _ _ _ _ (by omega), HD66.out]; exact wlk_same _ _ _
  have hsm : ∀ s ∈ SG, s.length = 32 := by rw [hSG]; exact sgn_mem_len _ _ _
  rw [← hSG] at o2
  obtain ⟨sb, sc, rfl, hsb, t2⟩ := ownS_txt o2 (by rw [hSl]; omega)
  rw [hSl]
  have HSG := hid hSG
  have HSl := hid hSl
  have HS0 := hid hs0
  have HS66 := hid hs66
  have HSM := hid hsm
  have K2 := hid (K1'.out.keep b2)
  have T2 := hid t2
  have B2 := hid (below_all B1.out b2)
  have hsc : 67 ≤ sc := by have := t2.cap; rw [hSl] at this; exact this
  have hZI : (Z.length : Int) = 32 := by have := HZL.out; omega
  obtain ⟨Y, hY⟩ : ∃ Y, Y = Z.drop 1 := ⟨_, rfl⟩
  have hdr : (⟨Z.toArray⟩ : ByteArray).extract 1 Z.length = ⟨Y.toArray⟩ := by rw [hY]; exact text_drop Z 1
  have hYl : Y.length = 31 := by rw [hY, List.length_drop, HZL.out]
  clear hY
  clear hSG hSl hs0 hs66 hsm o2 t2 b2 K1' B1
  go_wp2_with fail
  refine (sign_no [115] 3 Y (by omega) (by omega) w2).mono ?_
  rintro e w3 ⟨rfl, hw3⟩
  subst w3
  clear hdr
  go_wp2_with fail
  have hc0 : w2.cell? ⟨sb, 0, none⟩ = some (.string ⟨s0.toArray⟩) := by rw [T2.out.cells 0 (by rw [HSl.out]; omega), HS0.out]
  have hc66 : w2.cell? ⟨sb, 66, none⟩ = some (.string ⟨s66.toArray⟩) := by rw [T2.out.cells 66 (by rw [HSl.out]; omega), HS66.out]
  have HC0 := hid hc0
  have HC66 := hid hc66
  clear hc0 hc66
  refine wp_region_sq (fun W' => (W'.cell? ⟨sb, 0, none⟩ = some (.string ⟨s0.toArray⟩) ∧ sb < W'.heap.size) ∧ W'.cell? ⟨sb, 66, none⟩ = some (.string ⟨s66.toArray⟩) ∧ arr W' kb 87 (keyV [115] 3)) [(true, 0), (true, 1), (true, 2), (true, 3), (true, 4), (true, 5), (true, 6), (true, 7), (true, 8), (true, 9), (true, 10), (true, 11), (true, 12), (true, 13), (true, 14), (true, 15), (false, 16), (true, 17), (true, 18), (true, 19), (true, 20), (true, 21), (true, 22), (true, 23), (false, 24), (true, 25)] 26 rfl (by kernel_rfl) (by kernel_rfl) (by kernel_rfl) (by decide) rfl (by kernel_rfl) ⟨⟨HC0.out, T2.out.lt⟩, HC66.out, K2.out⟩ ?_
  have T3 := hid (T2.out.keep (Below.refl w2.heap.size w2).drew)
  have K3 := hid (K2.out.keep (Below.refl w2.heap.size w2).drew)
  have B3 := hid (below_all B2.out (Below.refl w2.heap.size w2).drew)
  have hc0 : w2.drew.cell? ⟨sb, 0, none⟩ = some (.string ⟨s0.toArray⟩) := HC0.out
  have hc66 : w2.drew.cell? ⟨sb, 66, none⟩ = some (.string ⟨s66.toArray⟩) := HC66.out
  have D0 := hid hc0
  have D66 := hid hc66
  clear hc0 hc66 HC0 HC66 T2 K2 B2
  generalize World.drew w2 = w3 at T3 K3 B3 D0 D66 ⊢
  refine sq_soft rfl (by kernel_rfl) (fun W hW => (by obtain ⟨hW1, hW2, hW3⟩ := hW; go_simp; try rfl)) ?_; go_frame
  refine sq_soft rfl (by kernel_rfl) (fun W hW => (by obtain ⟨hW1, hW2, hW3⟩ := hW; go_simp; try rfl)) ?_; go_frame
  refine sq_soft rfl (by kernel_rfl) (fun W hW => (by obtain ⟨hW1, hW2, hW3⟩ := hW; go_simp; try rfl)) ?_; go_frame
  refine sq_soft rfl (by kernel_rfl) (fun W hW => (by obtain ⟨hW1, hW2, hW3⟩ := hW; go_simp; try rfl)) ?_; go_frame
  refine sq_soft rfl (by kernel_rfl) (fun W hW => (by obtain ⟨hW1, hW2, hW3⟩ := hW; go_simp; try rfl)) ?_; go_frame
  refine sq_soft rfl (by kernel_rfl) (fun W hW => (by obtain ⟨hW1, hW2, hW3⟩ := hW; go_simp; try rfl)) ?_; go_frame
  refine sq_soft rfl (by kernel_rfl) (fun W hW => (by obtain ⟨hW1, hW2, hW3⟩ := hW; go_simp; try rfl)) ?_; go_frame
  refine sq_soft rfl (by kernel_rfl) (fun W hW => (by obtain ⟨hW1, hW2, hW3⟩ := hW; go_simp; try rfl)) ?_; go_frame
  refine sq_soft rfl (by kernel_rfl) (fun W hW => (by obtain ⟨hW1, hW2, hW3⟩ := hW; go_simp; try rfl)) ?_; go_frame
  refine sq_soft rfl (by kernel_rfl) (fun W hW => (by obtain ⟨hW1, hW2, hW3⟩ := hW; go_simp; try rfl)) ?_; go_frame
  refine sq_soft rfl (by kernel_rfl) (fun W hW => (by obtain ⟨hW1, hW2, hW3⟩ := hW; go_simp; try rfl)) ?_; go_frame
  refine sq_soft rfl (by kernel_rfl) (fun W hW => (by obtain ⟨hW1, hW2, hW3⟩ := hW; go_simp; try rfl)) ?_; go_frame
  refine sq_soft rfl (by kernel_rfl) (fun W hW => (by obtain ⟨hW1, hW2, hW3⟩ := hW; go_simp; try rfl)) ?_; go_frame
  refine sq_soft rfl (by kernel_rfl) (fun W hW => (by obtain ⟨hW1, hW2, hW3⟩ := hW; go_simp; try rfl)) ?_; go_frame
  refine sq_soft rfl (by kernel_rfl) (fun W hW => (by obtain ⟨hW1, hW2, hW3⟩ := hW; go_simp; try rfl)) ?_; go_frame
  refine sq_soft rfl (by kernel_rfl) (v := .agg (keyV [115] 3).toArray) (fun W hW => (by obtain ⟨hW1, hW2, hW3⟩ := hW; exact exec_load_part 87 _ rfl kb 0 rfl _ _ (fun j v h => hW3.cell _ _ (by rw [Nat.zero_add]; exact h)) Try.underlying87 rfl (by kernel_rfl))) ?_; go_frame
  refine sq_op rfl (by kernel_rfl) ?_
  go_simp
  refine (HL66.out w3).mono ?_
  rintro e w4 ⟨rfl, b4⟩
  have T4 := hid (T3.out.keep b4)
  have K4 := hid (K3.out.keep b4)
  have B4 := hid (below_all B3.out b4)
  have E0 := hid ((b4.cell (p := ⟨sb, 0, none⟩) T3.out.lt).trans D0.out)
  have E66 := hid ((b4.cell (p := ⟨sb, 66, none⟩) T3.out.lt).trans D66.out)
  refine ⟨⟨⟨E0.out, T4.out.lt⟩, E66.out, K4.out⟩, ?_⟩
  clear b4 T3 K3 B3 D0 D66
  try go_frame
  refine sq_soft rfl (by kernel_rfl) (fun W hW => (by obtain ⟨hW1, hW2, hW3⟩ := hW; go_simp; try rfl)) ?_; go_frame
  refine sq_soft rfl (by kernel_rfl) (fun W hW => (by obtain ⟨hW1, hW2, hW3⟩ := hW; go_simp; try rfl)) ?_; go_frame
  refine sq_soft rfl (by kernel_rfl) (fun W hW => (by obtain ⟨hW1, hW2, hW3⟩ := hW; go_simp; try rfl)) ?_; go_frame
  refine sq_soft rfl (by kernel_rfl) (fun W hW => (by obtain ⟨hW1, hW2, hW3⟩ := hW; go_simp; try rfl)) ?_; go_frame
  refine sq_soft rfl (by kernel_rfl) (fun W hW => (by obtain ⟨hW1, hW2, hW3⟩ := hW; go_simp; try rfl)) ?_; go_frame
  refine sq_soft rfl (by kernel_rfl) (fun W hW => (by obtain ⟨hW1, hW2, hW3⟩ := hW; go_simp; try rfl)) ?_; go_frame
  refine sq_soft rfl (by kernel_rfl) (v := .agg (keyV [115] 3).toArray) (fun W hW => (by obtain ⟨hW1, hW2, hW3⟩ := hW; exact exec_load_part 87 _ rfl kb 0 rfl _ _ (fun j v h => hW3.cell _ _ (by rw [Nat.zero_add]; exact h)) Try.underlying87 rfl (by kernel_rfl))) ?_; go_frame
  refine sq_op rfl (by kernel_rfl) ?_
  go_simp
  refine (HL0.out w4).mono ?_
  rintro e w5 ⟨rfl, b5⟩
  have T5 := hid (T4.out.keep b5)
  have K5 := hid (K4.out.keep b5)
  have B5 := hid (below_all B4.out b5)
  have F0 := hid ((b5.cell (p := ⟨sb, 0, none⟩) T4.out.lt).trans E0.out)
  have F66 := hid ((b5.cell (p := ⟨sb, 66, none⟩) T4.out.lt).trans E66.out)
  refine ⟨⟨⟨F0.out, T5.out.lt⟩, F66.out, K5.out⟩, ?_⟩
  clear b5 T4 K4 B4 E0 E66
  try go_frame
  refine sq_soft rfl (by kernel_rfl) (fun W hW => (by obtain ⟨hW1, hW2, hW3⟩ := hW; go_simp; try rfl)) ?_; go_frame
  refine sched_done ?_
  go_wp2_with fail
  have hmax : ∀ s ∈ SG, s.length ≤ 9223372036854775807 := fun s hs => by rw [HSM.out s hs]; omega
  have HMX := hid hmax
  clear hmax
  have hv5 := T5.out.strs HMX.out
  rw [HSl.out] at hv5
  refine (recover_any SG _ Z (by rw [HZL.out]; omega) w5 hv5).mono ?_
  rintro e w6 ⟨out, n, rfl, hrc, b6⟩
  obtain ⟨hout, hn⟩ := rcv_one hrc (show rcv SG Z PB 0 from Or.inr (Or.inr ⟨HZL.out, HSl.out, HSM.out, by rw [HPBE.out, HSG.out, recv_sgn], rfl⟩))
  subst hout
  subst hn
  have T6 := hid (T5.out.keep b6)
  have B6 := hid (below_all B5.out b6)
  clear b6 hv5 hrc T5 B5 K5 F0 F66
  go_wp2_with fail
  have hv6 := (T6.out.take 66).strs (fun s hs => HMX.out s (List.mem_of_mem_take hs))
  rw [show (SG.take 66).length = 66 by rw [List.length_take, HSl.out]; rfl] at hv6
  refine (recover_any (SG.take 66) _ Z (by rw [HZL.out]; omega) w6 hv6).mono ?_
  rintro e w7 ⟨out, n, rfl, hrc, b7⟩
  obtain ⟨hout, hn⟩ := rcv_one hrc (show rcv (SG.take 66) Z [] 10 from Or.inr (Or.inl ⟨HZL.out, Or.inl (by rw [List.length_take, HSl.out]; omega), rfl, rfl⟩))
  subst hout
  subst hn
  have T7 := hid (T6.out.keep b7)
  have B7 := hid (below_all B6.out b7)
  clear b7 hv6 hrc T6 B6
  have hal : Below w7.heap.size w7 (w7.alloc (.cells #[] 9)) := (Below.refl _ _).alloc (Nat.le_refl _) _
  have T8 := hid (T7.out.keep hal)
  have B8 := hid (below_all B7.out hal)
  have V8 : Hid (strsAt (w7.alloc (.cells #[] 9)) (w7.alloc (.cells #[] 9)).heap.size (.slice (some ⟨sb, 0, none⟩) 67 sc) SG) := hid (by have := T8.out.strs HMX.out; rwa [HSl.out] at this)
  obtain ⟨s5, hs5⟩ : ∃ s, s = SG.getD 5 [] := ⟨_, rfl⟩
  have hs5l : s5.length = 32 := HSM.out s5 (by rw [hs5, List.getD_eq_getElem?_getD, List.getElem?_eq_getElem (by rw [HSl.out]; omega)]; exact List.getElem_mem _)
  have hs5I : (s5.length : Int) = 32 := by omega
  have HS5 := hid hs5
  have HS5L := hid hs5l
  obtain ⟨y5, hy5⟩ : ∃ y, y = s5.take 31 := ⟨_, rfl⟩
  have hcut5 : (⟨s5.toArray⟩ : ByteArray).extract 0 31 = ⟨y5.toArray⟩ := by rw [hy5]; exact cut_text s5 31 31 (Or.inl rfl)
  have HY5 : Hid (y5.length = 31) := hid (by rw [hy5, List.length_take, hs5l]; rfl)
  clear hs5 hs5l hy5
  have O8 := hid (ownS.lit w7 w7.heap.size [] (Nat.le_refl _) (by simp))
  clear hal
  go_wp2_with ((at_builtin; go_must (refine wpList_appendS rfl _ _ rfl w7.heap.size _ _ [] SG rfl O8.out _ rfl V8.out (by rw [HSl.out]; simp) (by simp) ?_); intro v9 w9 ho9 hg9; rw [List.nil_append] at ho9; obtain ⟨hb, hcp, rfl, hbb, t9⟩ := ownS_txt ho9 (by rw [HSl.out]; omega); have hcap := t9.cap; rw [HSl.out] at hcap ⊢; have c5 := t9.cells 5 (by rw [HSl.out]; omega); rw [← HS5.out] at c5; have f5 := t9.free 5; have lh := t9.lt; have T9 := hid t9; have G9 := hid hg9; clear ho9 hg9 t9))
  have hw7 := B7.out.size
  have hsb7 := T7.out.lt
  have T9s : txtAt w9 sb SG sc := T8.out.grown G9.out (show some sb ≠ some w7.heap.size from fun e => by injection e with e; omega)
  have B9 : Below w.heap.size w w9 := B8.out.grown G9.out B8.out.size (fun k hk => by have hk2 : some w7.heap.size = some k := hk; injection hk2 with hk3; omega)
  have T10 := hid (T9.out.set 5 (by rw [HSl.out]; omega) y5)
  have T10s := hid (T9s.other ⟨hb, 5, none⟩ (by show hb ≠ sb; omega) (.string ⟨y5.toArray⟩))
  have B10 := hid (B9.setCell (p := ⟨hb, 5, none⟩) (by show w.heap.size ≤ hb; omega) (.string ⟨y5.toArray⟩))
  clear T9s B9 c5 f5 lh hw7 hsb7 T9 T8 B8 V8 O8 G9 T7 B7
  generalize w9.setCell ⟨hb, 5, none⟩ (.string ⟨y5.toArray⟩) = w10 at T10 T10s B10 ⊢
  have hmem5 : ∃ s ∈ SG.set 5 y5, s.length ≠ 32 := ⟨y5, List.mem_iff_getElem?.2 ⟨5, by rw [List.getElem?_set_self (by rw [HSl.out]; omega)]⟩, by rw [HY5.out]; omega⟩
  have hmx5 : ∀ s ∈ SG.set 5 y5, s.length ≤ 9223372036854775807 := fun s hs => by
    rcases List.mem_or_eq_of_mem_set hs with h | h
    · exact HMX.out s h
    · rw [h, HY5.out]; omega
  have HM5 := hid hmem5
  have hv10 := T10.out.strs hmx5
  rw [List.length_set, HSl.out] at hv10
  clear hmem5 hmx5
  refine (recover_any (SG.set 5 y5) _ Z (by rw [HZL.out]; omega) w10 hv10).mono ?_
  rintro e w11 ⟨out5, n, rfl, hrc, b11⟩
  obtain ⟨hout, hn⟩ := rcv_one hrc (show rcv (SG.set 5 y5) Z [] 10 from Or.inr (Or.inl ⟨HZL.out, Or.inr HM5.out, rfl, rfl⟩))
  subst hout
  subst hn
  have T11 := hid (T10s.out.keep b11)
  have B11 := hid (below_all B10.out b11)
  clear b11 hv10 hrc T10 T10s B10
  go_wp2_with fail
  have hv11 := T11.out.strs HMX.out
  rw [HSl.out] at hv11
  refine (recover_any SG _ [] (by simp) w11 hv11).mono ?_
  rintro e w12 ⟨out6, n, rfl, hrc, b12⟩
  obtain ⟨hout, hn⟩ := rcv_one hrc (show rcv SG [] [] 2 from Or.inl ⟨by simp, rfl, rfl⟩)
  subst hout
  subst hn
  have B12 := hid (below_all B11.out b12)
  clear b12 hv11 hrc T11 B11
  go_wp2_with fail
  refine (HPB.out w12).mono ?_
  rintro e w13 ⟨rfl, b13⟩
  have B13 := hid (below_all B12.out b13)
  clear b13 B12
  go_wp2
  go_ret
  exact ⟨rfl, B13.out⟩
end Go.Proofs.Ytcfohdkdppiekaa
