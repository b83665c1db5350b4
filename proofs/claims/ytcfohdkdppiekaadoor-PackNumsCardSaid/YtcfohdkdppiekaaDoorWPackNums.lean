/- PackNums: the walk. -/
import Derived.Test.YtcfohdkdppiekaaDoorWPackWorks
namespace Go.Proofs.YtcfohdkdppiekaaDoor
open Go.RowKit Go.Proofs
set_option maxRecDepth 100000 in
set_option maxHeartbeats 4000000 in
theorem packNums_any (n : Int) (hn : 0 ≤ n ∧ n ≤ 18446744073709551615) (w : World) (hR : RowsIn w w.heap.size) :
    Calls Tryd.prog 4 #[.int .u64 n] w fun e w' => e = .returned (.bool true) ∧ Below w.heap.size w w' := by
  have HR := hid hR
  obtain ⟨m, hm⟩ : ∃ m : Nat, n = (m : Int) := ⟨n.toNat, by omega⟩
  have hm64 : m < 2 ^ 64 := by omega
  obtain ⟨P, hP⟩ : ∃ P, P = pick (tab.getD 0 []) m := ⟨_, rfl⟩
  have hx : layOf 0 m [] = (P, 0) := by rw [hP]; rfl
  have HM := hid hm
  have H64 := hid hm64
  have HP := hid hP
  have HX := hid hx
  clear hR hm hm64 hP hx hn
  go_enter Tryd.func4, Tryd.ntmps4
  go_wp2_with fail
  refine (pnew_any _).mono ?_
  rintro e w2 ⟨g, rfl, hg, hp2, hb2⟩
  have W2 := hid (⟨hb2, HR.out.keep hb2, hp2, hb2.size⟩ : WS w w2 g w.heap.size [])
  clear hg hp2 hb2
  go_wp2_with fail
  rw [HM.out]
  refine (pnum_any m H64.out g w.heap.size [] _ W2.out.rows W2.out.isP (by simp) W2.out.size).mono ?_
  rintro e w3 ⟨rfl, hp3, hb3⟩
  have W3 := hid (W2.out.step (Nat.le_refl _) hb3 hp3)
  clear hp3 hb3 W2
  rw [← HM.out]
  go_wp2_with fail
  rw [HM.out]
  refine (rlaid_any 0 m H64.out [] (by simp) _).mono ?_
  rintro e w4 ⟨rfl, hb4⟩
  rw [HX.out]
  have W4 := hid (W3.out.quiet (Nat.le_refl _) hb4)
  clear hb4 W3
  rw [← HM.out]
  go_wp2_with fail
  refine (ptext_any g w.heap.size _ _ W4.out.isP).mono ?_
  rintro e w5 ⟨rfl, rfl⟩
  rw [List.nil_append, ← HP.out]
  go_wp2_with fail
  refine (works_any w.heap.size _ W4.out.rows W4.out.size).mono ?_
  rintro e w6 ⟨rfl, hb6⟩
  have W6 := hid (W4.out.quiet (Nat.le_refl _) hb6)
  clear hb6 W4
  go_wp2
  go_ret
  exact ⟨rfl, W6.out.below⟩
end Go.Proofs.YtcfohdkdppiekaaDoor
