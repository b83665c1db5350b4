/- PackKnown: the walk. -/
import Derived.Test.YtcfohdkdppiekaaDoorWPackWorks
namespace Go.Proofs.YtcfohdkdppiekaaDoor
open Go.RowKit Go.Proofs
theorem wpList_zeros {ops : Array Oper} {rest : List Oper} {o : Oper} {a : Act} {w : World} {Q : Exit → Act → World → Prop} (hgd : o.guard = none) (x y : Operand) (ho : o.op = .makeSlice 48 x y) (N : Int) (n : Nat) (hN : N = (n : Int)) (hx : a.eval x = .int .i64 N) (hy : a.eval y = .int .i64 N)
    (hn : n ≤ 1000000) (base : Nat) (hb : base ≤ w.heap.size) (h : ∀ v' w', own w' base v' (List.replicate n 0) → Below w.heap.size w w' → wpList Tryd.prog ops Q rest (a.put o.dst v') w') : wpList Tryd.prog ops Q (o :: rest) a w :=
  wpList_plain hgd fun K hK => wp_zeros x y ho N n hN hx hy hn base hb fun v' w' h1 h2 => hK _ _ (h v' w' h1 h2)
theorem pk_len (n : Nat) (Z : List UInt8) (hZ : Z = List.replicate 65535 0) : ((([] ++ mlay (tab.getD 3 []) 65535 ++ wlay (tab.getD 1 []) Z ++ wlay (tab.getD 2 []) Z).length : Nat) : Int) = 131079 := by
  have h1 : (mlay (tab.getD 3 []) 65535).length = 3 := by decide +kernel
  have hl : Z.length = 65535 := by rw [hZ, List.length_replicate]
  have h2 : (pick (tab.getD 1 []) 65535).length = 3 := by decide +kernel
  have h3 : (pick (tab.getD 2 []) 65535).length = 3 := by decide +kernel
  have h4 : (wlay (tab.getD 1 []) Z).length = 65538 := by
    unfold wlay
    rw [if_pos (by omega), List.length_append, hl, h2]
  have h5 : (wlay (tab.getD 2 []) Z).length = 65538 := by
    unfold wlay
    rw [if_pos (by omega), List.length_append, hl, h3]
  rw [List.length_append, List.length_append, List.length_append, h1, h4, h5]
  rfl
set_option maxRecDepth 100000 in
set_option maxHeartbeats 8000000 in
theorem packKnown_any (w : World) (hR : RowsIn w w.heap.size) :
    Calls Tryd.prog 7 #[] w fun e w' => e = .returned (.bool true) ∧ Below w.heap.size w w' := by
  have HR := hid hR
  obtain ⟨ZA, hZA⟩ : ∃ Z : List UInt8, Z = List.replicate 65536 0 := ⟨_, rfl⟩
  obtain ⟨ZB, hZB⟩ : ∃ Z : List UInt8, Z = List.replicate 65535 0 := ⟨_, rfl⟩
  have HZA := hid hZA
  have HZB := hid hZB
  clear hR hZA hZB
  go_enter Tryd.func7, Tryd.ntmps7
  go_wp2_with fail
  refine (pnew_any _).mono ?_
  rintro e w2 ⟨g, rfl, hg, hp2, hb2⟩
  have W2 := hid (⟨hb2, HR.out.keep hb2, hp2, hb2.size⟩ : WS w w2 g w.heap.size [])
  clear hg hp2 hb2
  go_wp2_with fail
  refine (pList_any 65535 (by decide) (by decide) g w.heap.size [] _ W2.out.rows W2.out.isP (by simp) W2.out.size).mono ?_
  rintro e w3 ⟨rfl, hp, hb⟩
  have W3 := hid (W2.out.step (Nat.le_refl _) hb hp)
  clear hp hb W2
  rw [show mcode 65535 = 0 from by decide]
  go_wp2_with fail
  refine (pMap_no (-5) 2 (by decide) (by decide) _ _).mono ?_
  rintro e w4 ⟨rfl, rfl⟩
  go_wp2_with (first | (refine wpList_zeros rfl _ _ rfl 65536 65536 rfl rfl rfl (by omega) w.heap.size W3.out.size ?_; intro v5 w5 ho5 hb5; have W5 := hid (W3.out.quiet (Nat.le_refl _) hb5); rw [← HZA.out] at ho5; clear hb5 W3) | (refine wpList_text rfl _ rfl (base := w.heap.size) _ ZA rfl ho5 ?_))
  clear ho5
  refine (pBin_no ZA (by rw [HZA.out, List.length_replicate]; omega) _ _).mono ?_
  rintro e w6 ⟨rfl, rfl⟩
  go_wp2_with fail
  refine (pList_no 65536 3 (by decide) (by decide) _ _).mono ?_
  rintro e w6 ⟨rfl, rfl⟩
  go_wp2_with fail
  refine (ptext_any g w.heap.size _ _ W5.out.isP).mono ?_
  rintro e w6 ⟨rfl, rfl⟩
  rw [show [] ++ mlay (tab.getD 3 []) 65535 = [220, 255, 255] from by decide +kernel]
  go_wp2_with (first | (refine wpList_zeros rfl _ _ rfl 65535 65535 rfl rfl rfl (by omega) w.heap.size W5.out.size ?_; intro v7 w7 ho7 hb7; have W7 := hid (W5.out.quiet (Nat.le_refl _) hb7); rw [← HZB.out] at ho7; clear hb7 W5) | (refine wpList_text rfl _ rfl (base := w.heap.size) _ ZB rfl ho7 ?_))
  clear ho7
  refine (pBin_any ZB (by rw [HZB.out, List.length_replicate]; omega) g w.heap.size _ _ W7.out.rows W7.out.isP (by decide +kernel) W7.out.size).mono ?_
  rintro e w8 ⟨rfl, hp, hb⟩
  have W8 := hid (W7.out.step (Nat.le_refl _) hb hp)
  clear hp hb W7
  rw [show wcode ZB = 0 from by unfold wcode; rw [if_pos (by rw [HZB.out, List.length_replicate]; omega)]]
  go_wp2_with fail
  refine (pStr_any ZB (by rw [HZB.out, List.length_replicate]; omega) g w.heap.size _ _ W8.out.rows W8.out.isP (by rw [HZB.out]; decide +kernel) W8.out.size).mono ?_
  rintro e w9 ⟨rfl, hp, hb⟩
  have W9 := hid (W8.out.step (Nat.le_refl _) hb hp)
  clear hp hb W8
  rw [show wcode ZB = 0 from by unfold wcode; rw [if_pos (by rw [HZB.out, List.length_replicate]; omega)]]
  go_wp2_with fail
  refine (Tryd.strings_Repeat_main ⟨#[120]⟩ 31 _ (by omega) (by omega) (by decide) (by decide)).mono ?_
  rintro e w10 ⟨rfl, c⟩
  rw [show (⟨#[120]⟩ : ByteArray).data.toList = [120] from rfl]
  rw [show Lib.repeatL [120] 31 = List.replicate 31 120 from by decide +kernel]
  obtain ⟨XA, hXA⟩ : ∃ A : List UInt8, A = List.replicate 31 120 := ⟨_, rfl⟩
  have hXAl : XA.length ≤ 31 := by rw [hXA, List.length_replicate]; exact Nat.le_refl _
  rw [← hXA]
  have HXA := hid hXA
  have W10 := hid (W9.out.quiet (Nat.le_refl _) c)
  clear c W9 hXA
  go_wp2_with fail
  refine (Tryd.strings_Repeat_main ⟨#[121]⟩ 255 _ (by omega) (by omega) (by decide) (by decide)).mono ?_
  rintro e w11 ⟨rfl, c⟩
  rw [show (⟨#[121]⟩ : ByteArray).data.toList = [121] from rfl]
  rw [show Lib.repeatL [121] 255 = List.replicate 255 121 from by decide +kernel]
  obtain ⟨YA, hYA⟩ : ∃ A : List UInt8, A = List.replicate 255 121 := ⟨_, rfl⟩
  have hYAl : YA.length ≤ 255 := by rw [hYA, List.length_replicate]; exact Nat.le_refl _
  rw [← hYA]
  have HYA := hid hYA
  have W11 := hid (W10.out.quiet (Nat.le_refl _) c)
  clear c W10 hYA
  go_wp2_with fail
  refine (Tryd.strings_Repeat_main ⟨#[122]⟩ 256 _ (by omega) (by omega) (by decide) (by decide)).mono ?_
  rintro e w12 ⟨rfl, c⟩
  rw [show (⟨#[122]⟩ : ByteArray).data.toList = [122] from rfl]
  rw [show Lib.repeatL [122] 256 = List.replicate 256 122 from by decide +kernel]
  obtain ⟨VA, hVA⟩ : ∃ A : List UInt8, A = List.replicate 256 122 := ⟨_, rfl⟩
  have hVAl : VA.length ≤ 256 := by rw [hVA, List.length_replicate]; exact Nat.le_refl _
  rw [← hVA]
  have HVA := hid hVA
  have W12 := hid (W11.out.quiet (Nat.le_refl _) c)
  clear c W11 hVA
  go_wp2_with fail
  refine (works_any w.heap.size _ W12.out.rows W12.out.size).mono ?_
  rintro e w13 ⟨rfl, hb⟩
  have W13 := hid (W12.out.quiet (Nat.le_refl _) hb)
  clear hb W12
  go_wp2_with fail
  refine (plen_any g w.heap.size _ _ W13.out.isP).mono ?_
  rintro e w14 ⟨rfl, rfl⟩
  rw [pk_len 0 ZB HZB.out]
  go_wp2_with fail
  refine (is_lit 0 0 0 rfl (by decide) [] [0] (by simp) (by decide +kernel) w.heap.size _ W13.out.rows W13.out.size).mono ?_
  rintro e u1 ⟨rfl, c⟩
  have U1 := hid (W13.out.quiet (Nat.le_refl _) c)
  clear c W13
  go_wp2_with fail
  refine (is_lit 0 255 255 rfl (by decide) [] [204, 255] (by simp) (by decide +kernel) w.heap.size _ U1.out.rows U1.out.size).mono ?_
  rintro e u2 ⟨rfl, c⟩
  have U2 := hid (U1.out.quiet (Nat.le_refl _) c)
  clear c U1
  go_wp2_with fail
  refine (is_lit 0 65535 65535 rfl (by decide) [] [205, 255, 255] (by simp) (by decide +kernel) w.heap.size _ U2.out.rows U2.out.size).mono ?_
  rintro e u3 ⟨rfl, c⟩
  have U3 := hid (U2.out.quiet (Nat.le_refl _) c)
  clear c U2
  go_wp2_with fail
  refine (is_lit 0 4294967295 4294967295 rfl (by decide) [] [206, 255, 255, 255, 255] (by simp) (by decide +kernel) w.heap.size _ U3.out.rows U3.out.size).mono ?_
  rintro e u4 ⟨rfl, c⟩
  have U4 := hid (U3.out.quiet (Nat.le_refl _) c)
  clear c U3
  go_wp2_with fail
  refine (is_lit 0 18446744073709551615 18446744073709551615 rfl (by decide) [] [207, 255, 255, 255, 255, 255, 255, 255, 255] (by simp) (by decide +kernel) w.heap.size _ U4.out.rows U4.out.size).mono ?_
  rintro e u5 ⟨rfl, c⟩
  have U5 := hid (U4.out.quiet (Nat.le_refl _) c)
  clear c U4
  go_wp2_with fail
  refine (is_lit 1 0 0 rfl (by decide) [] [196, 0] (by simp) (by decide +kernel) w.heap.size _ U5.out.rows U5.out.size).mono ?_
  rintro e u6 ⟨rfl, c⟩
  have U6 := hid (U5.out.quiet (Nat.le_refl _) c)
  clear c U5
  go_wp2_with fail
  rw [show (⟨#[196, 255]⟩ : ByteArray) ++ ⟨YA.toArray⟩ = ⟨([196, 255] ++ YA).toArray⟩ from str_app [196, 255] YA]
  refine (is_lit 1 0 0 rfl (by decide) YA ([196, 255] ++ YA) (by omega) (by rw [HYA.out]; decide +kernel) w.heap.size _ U6.out.rows U6.out.size).mono ?_
  rintro e u7 ⟨rfl, c⟩
  have U7 := hid (U6.out.quiet (Nat.le_refl _) c)
  clear c U6
  go_wp2_with fail
  rw [show (⟨#[197, 1, 0]⟩ : ByteArray) ++ ⟨VA.toArray⟩ = ⟨([197, 1, 0] ++ VA).toArray⟩ from str_app [197, 1, 0] VA]
  refine (is_lit 1 0 0 rfl (by decide) VA ([197, 1, 0] ++ VA) (by omega) (by rw [HVA.out]; decide +kernel) w.heap.size _ U7.out.rows U7.out.size).mono ?_
  rintro e u8 ⟨rfl, c⟩
  have U8 := hid (U7.out.quiet (Nat.le_refl _) c)
  clear c U7
  go_wp2_with fail
  refine (is_lit 2 0 0 rfl (by decide) [] [160] (by simp) (by decide +kernel) w.heap.size _ U8.out.rows U8.out.size).mono ?_
  rintro e u9 ⟨rfl, c⟩
  have U9 := hid (U8.out.quiet (Nat.le_refl _) c)
  clear c U8
  go_wp2_with fail
  rw [show (⟨#[191]⟩ : ByteArray) ++ ⟨XA.toArray⟩ = ⟨([191] ++ XA).toArray⟩ from str_app [191] XA]
  refine (is_lit 2 0 0 rfl (by decide) XA ([191] ++ XA) (by omega) (by rw [HXA.out]; decide +kernel) w.heap.size _ U9.out.rows U9.out.size).mono ?_
  rintro e u10 ⟨rfl, c⟩
  have U10 := hid (U9.out.quiet (Nat.le_refl _) c)
  clear c U9
  go_wp2_with fail
  rw [show (⟨#[217, 255]⟩ : ByteArray) ++ ⟨YA.toArray⟩ = ⟨([217, 255] ++ YA).toArray⟩ from str_app [217, 255] YA]
  refine (is_lit 2 0 0 rfl (by decide) YA ([217, 255] ++ YA) (by omega) (by rw [HYA.out]; decide +kernel) w.heap.size _ U10.out.rows U10.out.size).mono ?_
  rintro e u11 ⟨rfl, c⟩
  have U11 := hid (U10.out.quiet (Nat.le_refl _) c)
  clear c U10
  go_wp2_with fail
  rw [show (⟨#[218, 1, 0]⟩ : ByteArray) ++ ⟨VA.toArray⟩ = ⟨([218, 1, 0] ++ VA).toArray⟩ from str_app [218, 1, 0] VA]
  refine (is_lit 2 0 0 rfl (by decide) VA ([218, 1, 0] ++ VA) (by omega) (by rw [HVA.out]; decide +kernel) w.heap.size _ U11.out.rows U11.out.size).mono ?_
  rintro e u12 ⟨rfl, c⟩
  have U12 := hid (U11.out.quiet (Nat.le_refl _) c)
  clear c U11
  go_wp2_with fail
  refine (is_lit 3 0 0 rfl (by decide) [] [144] (by simp) (by decide +kernel) w.heap.size _ U12.out.rows U12.out.size).mono ?_
  rintro e u13 ⟨rfl, c⟩
  have U13 := hid (U12.out.quiet (Nat.le_refl _) c)
  clear c U12
  go_wp2_with fail
  refine (is_lit 3 15 15 rfl (by decide) [] [159] (by simp) (by decide +kernel) w.heap.size _ U13.out.rows U13.out.size).mono ?_
  rintro e u14 ⟨rfl, c⟩
  have U14 := hid (U13.out.quiet (Nat.le_refl _) c)
  clear c U13
  go_wp2_with fail
  refine (is_lit 4 0 0 rfl (by decide) [] [128] (by simp) (by decide +kernel) w.heap.size _ U14.out.rows U14.out.size).mono ?_
  rintro e u15 ⟨rfl, c⟩
  have U15 := hid (U14.out.quiet (Nat.le_refl _) c)
  clear c U14
  go_wp2_with fail
  refine (is_lit 4 65535 65535 rfl (by decide) [] [222, 255, 255] (by simp) (by decide +kernel) w.heap.size _ U15.out.rows U15.out.size).mono ?_
  rintro e u16 ⟨rfl, c⟩
  have U16 := hid (U15.out.quiet (Nat.le_refl _) c)
  clear c U15
  go_wp2_with fail
  refine (pnum_nil 1 _).mono ?_
  rintro e w15 ⟨rfl, rfl⟩
  go_wp2_with fail
  refine (pBin_nil _ _).mono ?_
  rintro e w15 ⟨rfl, rfl⟩
  go_wp2_with fail
  refine (pStr_nil _ _).mono ?_
  rintro e w15 ⟨rfl, rfl⟩
  go_wp2_with fail
  refine (pList_nil _ _).mono ?_
  rintro e w15 ⟨rfl, rfl⟩
  go_wp2_with fail
  refine (pMap_nil _ _).mono ?_
  rintro e w15 ⟨rfl, rfl⟩
  go_wp2_with fail
  refine (ptext_nil _).mono ?_
  rintro e w15 ⟨rfl, rfl⟩
  go_wp2_with fail
  refine (plen_nil _).mono ?_
  rintro e w15 ⟨rfl, rfl⟩
  go_wp2
  go_ret
  exact ⟨rfl, U16.out.below⟩
end Go.Proofs.YtcfohdkdppiekaaDoor
