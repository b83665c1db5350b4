/- law09's works: contract. -/
import Derived.Test.YtcfohdkdppiekaaWLaw09
namespace Go.Proofs.Ytcfohdkdppiekaa
open Go Go.RowKit Go.Proofs
attribute [local go_sem] Oper.semAt_some
theorem one_at00 (g : Nat) (w : World) (h : isTree w g [[97]]) : Calls Try.prog 94 #[.pointer (some ⟨g, 0, none⟩), .int .i64 0, .int .u64 0] w fun e w' => e = .returned (.tuple #[.string ⟨(leafd [97]).toArray⟩, .bool true]) ∧ Below w.heap.size w w' := by
  have := tat_in g [[97]] (by decide) 0 0 (Nat.zero_le _) (Nat.two_pow_pos _) w h
  rw [show td [[97]] (dp [[(97 : UInt8)]].length) 0 0 = leafd [97] by simp [dp1, td, tleaf, rv]] at this
  exact this
theorem one_at01 (g : Nat) (w : World) (h : isTree w g [[97]]) : Calls Try.prog 94 #[.pointer (some ⟨g, 0, none⟩), .int .i64 0, .int .u64 1] w fun e w' => e = .returned (.tuple #[.string ⟨#[]⟩, .bool false]) ∧ w' = w :=
  tat_out g [[97]] (by decide) 0 1 (by decide) (by decide) (by rintro ⟨h0, h1, h2⟩; rw [show dp [[(97 : UInt8)]].length = 0 from dp1] at h2; simp at h2) w h
theorem one_at10 (g : Nat) (w : World) (h : isTree w g [[97]]) : Calls Try.prog 94 #[.pointer (some ⟨g, 0, none⟩), .int .i64 1, .int .u64 0] w fun e w' => e = .returned (.tuple #[.string ⟨#[]⟩, .bool false]) ∧ w' = w :=
  tat_out g [[97]] (by decide) 1 0 (by decide) (by decide) (by rintro ⟨h0, h1, h2⟩; rw [show dp [[(97 : UInt8)]].length = 0 from dp1] at h1; simp at h1) w h
theorem two_with1 (g : Nat) (w : World) (h : isTree w g [[97], [98]]) : Calls Try.prog 97 #[.pointer (some ⟨g, 0, none⟩), .int .u64 1, .string ⟨#[99]⟩] w (Built w [[97], [99]]) :=
  twith_any g [[97], [98]] (by decide) 1 (by decide) [99] (by decide) w h
theorem two_with2 (g : Nat) (w : World) (h : isTree w g [[97], [98]]) : Calls Try.prog 97 #[.pointer (some ⟨g, 0, none⟩), .int .u64 2, .string ⟨#[99]⟩] w fun e w' => e = .returned (.tuple #[.pointer none, .int .i64 2]) ∧ Below w.heap.size w w' :=
  twith_arg g [[97], [98]] (by decide) 2 (by decide) (by decide) [99] w h
set_option maxRecDepth 100000 in
set_option maxHeartbeats 2000000 in
theorem works9_any (w : World) : Calls Try.prog 96 #[] w fun e w' => e = .returned (.bool true) ∧ Below w.heap.size w w' := by
  obtain ⟨la, hla⟩ : ∃ x, x = leafd [97] := ⟨_, rfl⟩
  obtain ⟨lb, hlb⟩ : ∃ x, x = leafd [98] := ⟨_, rfl⟩
  obtain ⟨lc, hlc⟩ : ∃ x, x = leafd [99] := ⟨_, rfl⟩
  obtain ⟨nd, hnd⟩ : ∃ x, x = noned := ⟨_, rfl⟩
  obtain ⟨xac, hxac⟩ : ∃ x, x = noded la lc := ⟨_, rfl⟩
  obtain ⟨xbn, hxbn⟩ : ∃ x, x = noded lb nd := ⟨_, rfl⟩
  obtain ⟨xab, hxab⟩ : ∃ x, x = noded la lb := ⟨_, rfl⟩
  obtain ⟨x3, hx3⟩ : ∃ x, x = noded xac xbn := ⟨_, rfl⟩
  have ka : la.length = 32 := by rw [hla]; exact hsh_len ok_leaf _
  have kb : lb.length = 32 := by rw [hlb]; exact hsh_len ok_leaf _
  have kc : lc.length = 32 := by rw [hlc]; exact hsh_len ok_leaf _
  have kn : nd.length = 32 := by rw [hnd]; exact hsh_len ok_none _
  have kac : xac.length = 32 := by rw [hxac]; exact hsh_len ok_node _
  have kbn : xbn.length = 32 := by rw [hxbn]; exact hsh_len ok_node _
  have C1 : Hid (∀ W, Calls Try.prog 42 #[.string ⟨#[108, 101, 97, 102]⟩, .slice (some ⟨W.heap.size, 0, none⟩) 1 1] (W.alloc (.cells #[.string ⟨#[97]⟩] 9 (0, 0))) fun e w' => e = .returned (.string ⟨la.toArray⟩) ∧ Below W.heap.size W w') := hid fun W => by rw [hla]; exact hlit_any tLeaf [[97]] (by decide) (by simp) (by simp) W
  have C2 : Hid (∀ W, Calls Try.prog 42 #[.string ⟨#[108, 101, 97, 102]⟩, .slice (some ⟨W.heap.size, 0, none⟩) 1 1] (W.alloc (.cells #[.string ⟨#[98]⟩] 9 (0, 0))) fun e w' => e = .returned (.string ⟨lb.toArray⟩) ∧ Below W.heap.size W w') := hid fun W => by rw [hlb]; exact hlit_any tLeaf [[98]] (by decide) (by simp) (by simp) W
  have C3 : Hid (∀ W, Calls Try.prog 42 #[.string ⟨#[108, 101, 97, 102]⟩, .slice (some ⟨W.heap.size, 0, none⟩) 1 1] (W.alloc (.cells #[.string ⟨#[99]⟩] 9 (0, 0))) fun e w' => e = .returned (.string ⟨lc.toArray⟩) ∧ Below W.heap.size W w') := hid fun W => by rw [hlc]; exact hlit_any tLeaf [[99]] (by decide) (by simp) (by simp) W
  have C4 : Hid (∀ W, Calls Try.prog 42 #[.string ⟨#[110, 111, 110, 101]⟩, .slice none 0 0] W fun e w' => e = .returned (.string ⟨nd.toArray⟩) ∧ Below W.heap.size W w') := hid fun W => by rw [hnd]; exact hash_any tNone [] _ W (strsAt.nil _ _) (by decide) (by simp [fparts]) (by simp)
  have C5 : Hid (∀ W, Calls Try.prog 42 #[.string ⟨#[110, 111, 100, 101]⟩, .slice (some ⟨W.heap.size, 0, none⟩) 2 2] (W.alloc (.cells #[.string ⟨la.toArray⟩, .string ⟨lc.toArray⟩] 9 (0, 0))) fun e w' => e = .returned (.string ⟨xac.toArray⟩) ∧ Below W.heap.size W w') := hid fun W => by rw [hxac]; exact hlit_any tNode [la, lc] (by decide) (by simp; omega) (by simp) W
  have C6 : Hid (∀ W, Calls Try.prog 42 #[.string ⟨#[110, 111, 100, 101]⟩, .slice (some ⟨W.heap.size, 0, none⟩) 2 2] (W.alloc (.cells #[.string ⟨lb.toArray⟩, .string ⟨nd.toArray⟩] 9 (0, 0))) fun e w' => e = .returned (.string ⟨xbn.toArray⟩) ∧ Below W.heap.size W w') := hid fun W => by rw [hxbn]; exact hlit_any tNode [lb, nd] (by decide) (by simp; omega) (by simp) W
  have C7 : Hid (∀ W, Calls Try.prog 42 #[.string ⟨#[110, 111, 100, 101]⟩, .slice (some ⟨W.heap.size, 0, none⟩) 2 2] (W.alloc (.cells #[.string ⟨xac.toArray⟩, .string ⟨xbn.toArray⟩] 9 (0, 0))) fun e w' => e = .returned (.string ⟨x3.toArray⟩) ∧ Below W.heap.size W w') := hid fun W => by rw [hx3]; exact hlit_any tNode [xac, xbn] (by decide) (by simp; omega) (by simp) W
  have C8 : Hid (∀ W, Calls Try.prog 42 #[.string ⟨#[110, 111, 100, 101]⟩, .slice (some ⟨W.heap.size, 0, none⟩) 2 2] (W.alloc (.cells #[.string ⟨la.toArray⟩, .string ⟨lb.toArray⟩] 9 (0, 0))) fun e w' => e = .returned (.string ⟨xab.toArray⟩) ∧ Below W.heap.size W w') := hid fun W => by rw [hxab]; exact hlit_any tNode [la, lb] (by decide) (by simp; omega) (by simp) W
  have R0 : Hid (∀ W, Calls Try.prog 142 #[.slice none 0 0] W fun e w' => e = .returned (.string ⟨nd.toArray⟩) ∧ Below W.heap.size W w') := hid fun W => by rw [hnd, ← rootd_nil]; exact root9_any [] (by decide) (by simp) _ W (strsAt.nil _ _)
  have R3 : Hid (∀ W, Calls Try.prog 142 #[.slice (some ⟨W.heap.size, 0, none⟩) 3 3] (W.alloc (.cells #[.string ⟨#[97]⟩, .string ⟨#[98]⟩, .string ⟨#[99]⟩] 9 (0, 0))) fun e w' => e = .returned (.string ⟨x3.toArray⟩) ∧ Below W.heap.size W w') := hid fun W => by
    have e : x3 = rootd [[97], [98], [99]] := by rw [rootd_abc, hx3, hxac, hxbn, hla, hlb, hlc, hnd]
    rw [e]; exact rlit_any [[97], [98], [99]] (by simp) (by simp) W
  have R2 : Hid (∀ W, Calls Try.prog 142 #[.slice (some ⟨W.heap.size, 0, none⟩) 2 2] (W.alloc (.cells #[.string ⟨#[97]⟩, .string ⟨#[99]⟩] 9 (0, 0))) fun e w' => e = .returned (.string ⟨xac.toArray⟩) ∧ Below W.heap.size W w') := hid fun W => by
    have e : xac = rootd [[97], [99]] := by rw [rootd_ab, hxac, hla, hlc]
    rw [e]; exact rlit_any [[97], [99]] (by simp) (by simp) W
  have B1 : Hid (∀ W, Calls Try.prog 87 #[.slice (some ⟨W.heap.size, 0, none⟩) 1 1] (W.alloc (.cells #[.string ⟨#[97]⟩] 9 (0, 0))) (Built W [[97]])) := hid fun W => blit_any [[97]] (by simp) (by simp) W
  have B2 : Hid (∀ W, Calls Try.prog 87 #[.slice (some ⟨W.heap.size, 0, none⟩) 2 2] (W.alloc (.cells #[.string ⟨#[97]⟩, .string ⟨#[98]⟩] 9 (0, 0))) (Built W [[97], [98]])) := hid fun W => blit_any [[97], [98]] (by simp) (by simp) W
  have A00 : Hid (∀ g W, isTree W g [[97]] → Calls Try.prog 94 #[.pointer (some ⟨g, 0, none⟩), .int .i64 0, .int .u64 0] W fun e w' => e = .returned (.tuple #[.string ⟨la.toArray⟩, .bool true]) ∧ Below W.heap.size W w') := hid fun g W h => by rw [hla]; exact one_at00 g W h
  have T1 : Hid (∀ g W, isTree W g [[97]] → Calls Try.prog 89 #[.pointer (some ⟨g, 0, none⟩)] W fun e w' => e = .returned (.string ⟨la.toArray⟩) ∧ w' = W) := hid fun g W h => by rw [hla, ← rootd_a]; exact troot_any g _ W h
  have T2 : Hid (∀ g W, isTree W g [[97], [98]] → Calls Try.prog 89 #[.pointer (some ⟨g, 0, none⟩)] W fun e w' => e = .returned (.string ⟨xab.toArray⟩) ∧ w' = W) := hid fun g W h => by rw [hxab, hla, hlb, ← rootd_ab]; exact troot_any g _ W h
  have T3 : Hid (∀ g W, isTree W g [[97], [99]] → Calls Try.prog 89 #[.pointer (some ⟨g, 0, none⟩)] W fun e w' => e = .returned (.string ⟨xac.toArray⟩) ∧ w' = W) := hid fun g W h => by rw [hxac, hla, hlc, ← rootd_ab]; exact troot_any g _ W h
  have D1 : Hid (∀ g W, isTree W g [[97]] → Calls Try.prog 91 #[.pointer (some ⟨g, 0, none⟩)] W fun e w' => e = .returned (.int .i64 0) ∧ w' = W) := hid fun g W h => by have := tdepth_any g _ W h; rw [show dp [[(97 : UInt8)]].length = 0 from dp1] at this; exact this
  have D2 : Hid (∀ g W, isTree W g [[97], [98]] → Calls Try.prog 91 #[.pointer (some ⟨g, 0, none⟩)] W fun e w' => e = .returned (.int .i64 1) ∧ w' = W) := hid fun g W h => by have := tdepth_any g _ W h; rw [show dp [[(97 : UInt8)], [98]].length = 1 from dp2] at this; exact this
  have N2 : Hid (∀ g W, isTree W g [[97], [98]] → Calls Try.prog 93 #[.pointer (some ⟨g, 0, none⟩)] W fun e w' => e = .returned (.int .i64 2) ∧ w' = W) := hid fun g W h => tlen_any g _ W h
  have knI : (nd.length : Int) = 32 := by omega
  clear hla hlb hlc hnd hxac hxbn hxab hx3 ka kb kc kac kbn
  go_enter Try.func96, Try.ntmps96
  go_wp2_with fail
  refine (C1.out w).mono ?_
  rintro e w1 ⟨rfl, b⟩
  have E1 := hid b
  clear b
  go_wp2_with fail
  refine (C2.out w1).mono ?_
  rintro e w2 ⟨rfl, b⟩
  have E2 := hid (below_all E1.out b)
  clear b E1
  go_wp2_with fail
  refine (C3.out w2).mono ?_
  rintro e w3 ⟨rfl, b⟩
  have E3 := hid (below_all E2.out b)
  clear b E2
  go_wp2_with fail
  refine (C4.out w3).mono ?_
  rintro e w4 ⟨rfl, b⟩
  have E4 := hid (below_all E3.out b)
  clear b E3
  go_wp2_with fail
  refine (B1.out w4).mono ?_
  rintro e w5 ⟨g1, rfl, t, b⟩
  have E5 := hid (below_all E4.out b)
  have G5 := hid t
  clear b t E4
  go_wp2_with fail
  refine (B2.out w5).mono ?_
  rintro e w6 ⟨g2, rfl, t, b⟩
  have E6 := hid (below_all E5.out b)
  have G6 := hid (G5.out.keep b)
  have H6 := hid t
  clear b t E5 G5
  go_wp2_with fail
  refine (A00.out g1 w6 G6.out).mono ?_
  rintro e w7 ⟨rfl, b⟩
  have E7 := hid (below_all E6.out b)
  have G7 := hid (G6.out.keep b)
  have H7 := hid (H6.out.keep b)
  clear b E6 G6 H6
  go_wp2_with fail
  refine (one_at01 g1 w7 G7.out).mono ?_
  rintro e w8 ⟨rfl, b⟩
  subst w8
  go_wp2_with fail
  refine (one_at10 g1 w7 G7.out).mono ?_
  rintro e w8 ⟨rfl, b⟩
  subst w8
  go_wp2_with fail
  refine (two_with1 g2 w7 H7.out).mono ?_
  rintro e w8 ⟨g3, rfl, t, b⟩
  have E8 := hid (below_all E7.out b)
  have G8 := hid (G7.out.keep b)
  have H8 := hid (H7.out.keep b)
  have I8 := hid t
  clear b t E7 G7 H7
  go_wp2_with fail
  refine (two_with2 g2 w8 H8.out).mono ?_
  rintro e w9 ⟨rfl, b⟩
  have E9 := hid (below_all E8.out b)
  have G9 := hid (G8.out.keep b)
  have H9 := hid (H8.out.keep b)
  have I9 := hid (I8.out.keep b)
  clear b E8 G8 H8 I8
  go_wp2_with fail
  refine (R0.out w9).mono ?_
  rintro e w10 ⟨rfl, b⟩
  have EA := hid (below_all E9.out b)
  have GA := hid (G9.out.keep b)
  have HA := hid (H9.out.keep b)
  have IA := hid (I9.out.keep b)
  clear b E9 G9 H9 I9
  go_wp2_with fail
  refine (T1.out g1 w10 GA.out).mono ?_
  rintro e w11 ⟨rfl, b⟩
  subst w11
  go_wp2_with fail
  refine (R3.out w10).mono ?_
  rintro e w11 ⟨rfl, b⟩
  have EB := hid (below_all EA.out b)
  have GB := hid (GA.out.keep b)
  have HB := hid (HA.out.keep b)
  have IB := hid (IA.out.keep b)
  clear b EA GA HA IA
  go_wp2_with fail
  refine (C5.out w11).mono ?_
  rintro e w12 ⟨rfl, b⟩
  have EC := hid (below_all EB.out b)
  have GC := hid (GB.out.keep b)
  have HC := hid (HB.out.keep b)
  have IC := hid (IB.out.keep b)
  clear b EB GB HB IB
  go_wp2_with fail
  refine (C6.out w12).mono ?_
  rintro e w13 ⟨rfl, b⟩
  have ED := hid (below_all EC.out b)
  have GD := hid (GC.out.keep b)
  have HD := hid (HC.out.keep b)
  have ID := hid (IC.out.keep b)
  clear b EC GC HC IC
  go_wp2_with fail
  refine (C7.out w13).mono ?_
  rintro e w14 ⟨rfl, b⟩
  have EE := hid (below_all ED.out b)
  have GE := hid (GD.out.keep b)
  have HE := hid (HD.out.keep b)
  have IE := hid (ID.out.keep b)
  clear b ED GD HD ID
  go_wp2_with fail
  refine (T3.out g3 w14 IE.out).mono ?_
  rintro e w15 ⟨rfl, b⟩
  subst w15
  go_wp2_with fail
  refine (R2.out w14).mono ?_
  rintro e w15 ⟨rfl, b⟩
  have EF := hid (below_all EE.out b)
  have GF := hid (GE.out.keep b)
  have HF := hid (HE.out.keep b)
  clear b EE GE HE IE
  go_wp2_with fail
  refine (T2.out g2 w15 HF.out).mono ?_
  rintro e w16 ⟨rfl, b⟩
  subst w16
  go_wp2_with fail
  refine (C8.out w15).mono ?_
  rintro e w16 ⟨rfl, b⟩
  have EG := hid (below_all EF.out b)
  have GG := hid (GF.out.keep b)
  have HG := hid (HF.out.keep b)
  clear b EF GF HF
  go_wp2_with fail
  refine (D1.out g1 w16 GG.out).mono ?_
  rintro e w17 ⟨rfl, b⟩
  subst w17
  go_wp2_with fail
  refine (D2.out g2 w16 HG.out).mono ?_
  rintro e w17 ⟨rfl, b⟩
  subst w17
  go_wp2_with fail
  refine (N2.out g2 w16 HG.out).mono ?_
  rintro e w17 ⟨rfl, b⟩
  subst w17
  go_wp2
  go_ret
  exact ⟨rfl, EG.out⟩
end Go.Proofs.Ytcfohdkdppiekaa
