/- law05's works: contract. -/
import Derived.Test.YtcfohdkdppiekaaDoorWPackOps
import Derived.Test.YtcfohdkdppiekaaDoorFree
namespace Go.Proofs.YtcfohdkdppiekaaDoor
open Go.RowKit Go.Proofs
theorem rep32 : Lib.repeatL [97] 32 = List.replicate 32 97 := by decide +kernel
def wkVal (g B : Nat) (Z : List UInt8) (j : Nat) (v : Value) (W : World) : Prop :=
  match j with
  | 0 | 2 | 4 => v = .pointer (some ⟨g, 0, none⟩)
  | 1 | 8 => v = .int .i64 2
  | 3 | 9 | 7 | 10 => v = .int .i64 3
  | 5 => own W B v Z
  | 6 => v = .string ⟨Z.toArray⟩
  | _ => True
def wkNeed (j : Nat) : List Nat :=
  match j with
  | 1 => [0] | 3 => [2] | 6 => [5] | 7 => [4, 6] | 8 => [1] | 9 => [3] | 10 => [7] | _ => []
theorem is_lit (S N : Int) (n : Nat) (hN : N = (n : Int)) (hn : n < 2 ^ 64) (s want : List UInt8) (hs : s.length ≤ 700) (hc : layOf S n s = (want, 0)) (B : Nat) (w : World) (hR : RowsIn w B) (hBw : B ≤ w.heap.size) :
    Calls Tryd.prog 25 #[.int .i64 S, .int .u64 N, .string ⟨s.toArray⟩, .string ⟨want.toArray⟩] w fun e w' => e = .returned (.bool true) ∧ Below w.heap.size w w' := by
  subst hN
  exact is_any S n hn s want (by omega) B w hR hBw (by rw [hc]) (by rw [hc]) hs
set_option maxRecDepth 100000 in
set_option maxHeartbeats 4000000 in
theorem works_any (B : Nat) (w : World) (hR : RowsIn w B) (hBw : B ≤ w.heap.size) :
    Calls Tryd.prog 14 #[] w fun e w' => e = .returned (.bool true) ∧ Below w.heap.size w w' := by
  have HR := hid (hR.wide hBw)
  clear hR
  go_enter Tryd.func14, Tryd.ntmps14
  go_wp2_with fail
  refine (Tryd.strings_Repeat_main ⟨#[97]⟩ 32 _ (by omega) (by omega) (by decide) (by decide)).mono ?_
  rintro e w1 ⟨rfl, hb1⟩
  rw [show (⟨#[97]⟩ : ByteArray).data.toList = [97] from rfl, rep32]
  obtain ⟨A, hA⟩ : ∃ A : List UInt8, A = List.replicate 32 97 := ⟨_, rfl⟩
  have hAl : A.length ≤ 32 := by rw [hA, List.length_replicate]; exact Nat.le_refl _
  rw [← hA]
  have HA := hid hA
  have H1 := hid hb1
  clear hA hb1
  go_wp2_with fail
  refine (pnew_any _).mono ?_
  rintro e w2 ⟨g, rfl, hg, hp2, hb2⟩
  have W2 : WS w w2 g w1.heap.size [] := ⟨H1.out.trans (hb2.mono H1.out.size), ((HR.out.keep H1.out).wide H1.out.size).keep hb2, hp2, hb2.size⟩
  have S1 := hid H1.out.size
  have HG := hid hg
  have HW2 := hid W2
  clear hg hp2 hb2 W2
  obtain ⟨Z, hZ⟩ : ∃ Z : List UInt8, Z = List.replicate 65536 0 := ⟨_, rfl⟩
  have HZ := hid hZ
  clear hZ
  go_wp2_with fail
  refine wp_region_free 77 wkNeed (wkVal g w1.heap.size Z) (fun W => WS w W g w1.heap.size []) (fun W W' => Below W.heap.size W W') (by kernel_rfl) rfl (by kernel_rfl) (by kernel_rfl) (by kernel_rfl) ?_ ?_ (HW2.out.drew S1.out) ?_ ?_
  · intro j v W W' h _ hr
    match j, h with
    | 0, h | 2, h | 4, h | 1, h | 8, h | 3, h | 9, h | 7, h | 10, h | 6, h => exact h
    | 5, h => exact own.keep h hr
    | _ + 11, _ => trivial
  · intro W W' h hr
    exact h.quiet S1.out hr
  · refine ⟨?_, ?_, ?_, ?_, ?_, ?_, ?_, ?_, ?_, ?_, ?_, trivial⟩
    all_goals intro a W hw hrest hn
    · exact wp_move (.tmp 2) rfl ⟨_, rfl, (hrest.get 2 (by kernel_rfl)).trans rfl, Below.refl _ _⟩
    · have h0 : a.tmps.getD 10 undef = .pointer (some ⟨g, 0, none⟩) := hn 0 (by decide)
      refine wp_call 20 _ _ rfl #[.pointer (some ⟨g, 0, none⟩), .int .i64 (-1)] ?_ (enters_of Tryd.func20 (by kernel_rfl) rfl) ((pList_no (-1) 2 (by decide) (by decide) _ _).mono ?_)
      · simp only [List.map_toArray, List.map_cons, List.map_nil]
        show #[a.tmps.getD 10 undef, _] = _
        rw [h0]; rfl
      · rintro e W' ⟨rfl, rfl⟩
        exact ⟨_, rfl, _, rfl, rfl, Below.refl _ _⟩
    · exact wp_move (.tmp 2) rfl ⟨_, rfl, (hrest.get 2 (by kernel_rfl)).trans rfl, Below.refl _ _⟩
    · have h0 : a.tmps.getD 12 undef = .pointer (some ⟨g, 0, none⟩) := hn 2 (by decide)
      refine wp_call 21 _ _ rfl #[.pointer (some ⟨g, 0, none⟩), .int .i64 65536] ?_ (enters_of Tryd.func21 (by kernel_rfl) rfl) ((pMap_no 65536 3 (by decide) (by decide) _ _).mono ?_)
      · simp only [List.map_toArray, List.map_cons, List.map_nil]
        show #[a.tmps.getD 12 undef, _] = _
        rw [h0]; rfl
      · rintro e W' ⟨rfl, rfl⟩
        exact ⟨_, rfl, _, rfl, rfl, Below.refl _ _⟩
    · exact wp_move (.tmp 2) rfl ⟨_, rfl, (hrest.get 2 (by kernel_rfl)).trans rfl, Below.refl _ _⟩
    · refine wp_zeros _ _ rfl 65536 65536 rfl rfl rfl (by omega) w1.heap.size hw.size fun v' w' ho hb => ?_
      refine ⟨_, rfl, ?_, hb⟩
      show own w' w1.heap.size v' Z
      rw [HZ.out]; exact ho
    · have h0 : own W w1.heap.size (a.tmps.getD 15 undef) Z := hn 5 (by decide)
      exact wp_textof (.tmp 15) rfl (base := w1.heap.size) _ Z rfl h0 ⟨_, rfl, rfl, Below.refl _ _⟩
    · have h0 : a.tmps.getD 14 undef = .pointer (some ⟨g, 0, none⟩) := hn 4 (by decide)
      have h1 : a.tmps.getD 16 undef = .string ⟨Z.toArray⟩ := hn 6 (by decide)
      refine wp_call 23 _ _ rfl #[.pointer (some ⟨g, 0, none⟩), .string ⟨Z.toArray⟩] ?_ (enters_of Tryd.func23 (by kernel_rfl) rfl) ((pStr_no Z (by rw [HZ.out, List.length_replicate]; omega) _ _).mono ?_)
      · simp only [List.map_toArray, List.map_cons, List.map_nil]
        show #[a.tmps.getD 14 undef, a.tmps.getD 16 undef] = _
        rw [h0, h1]
      · rintro e W' ⟨rfl, rfl⟩
        exact ⟨_, rfl, _, rfl, rfl, Below.refl _ _⟩
    · exact wp_assign (.tmp 11) rfl ⟨_, rfl, hn 1 (by decide), Below.refl _ _⟩
    · exact wp_assign (.tmp 13) rfl ⟨_, rfl, hn 3 (by decide), Below.refl _ _⟩
    · exact wp_assign (.tmp 17) rfl ⟨_, rfl, hn 7 (by decide), Below.refl _ _⟩
  · intro V w3 hw3 hv
    have v0 : V 0 = .pointer (some ⟨g, 0, none⟩) := hv 0 (by decide)
    have v1 : V 1 = .int .i64 2 := hv 1 (by decide)
    have v2 : V 2 = .pointer (some ⟨g, 0, none⟩) := hv 2 (by decide)
    have v3 : V 3 = .int .i64 3 := hv 3 (by decide)
    have v4 : V 4 = .pointer (some ⟨g, 0, none⟩) := hv 4 (by decide)
    have v6 : V 6 = .string ⟨Z.toArray⟩ := hv 6 (by decide)
    have v7 : V 7 = .int .i64 3 := hv 7 (by decide)
    have v8 : V 8 = .int .i64 2 := hv 8 (by decide)
    have v9 : V 9 = .int .i64 3 := hv 9 (by decide)
    have v10 : V 10 = .int .i64 3 := hv 10 (by decide)
    simp only [putList, Nat.zero_add, Nat.reduceAdd, v0, v1, v2, v3, v4, v6, v7, v8, v9, v10]
    obtain ⟨X, hX⟩ : ∃ X, X = V 5 := ⟨_, rfl⟩
    rw [← hX]
    have HW3 := hid hw3
    clear v0 v1 v2 v3 v4 v6 v7 v8 v9 v10 hv hX hw3
    go_wp2_with fail
    refine (is_lit 0 127 127 rfl (by decide) [] [127] (by simp) (by decide +kernel) w1.heap.size _ HW3.out.rows HW3.out.size).mono ?_
    rintro e u1 ⟨rfl, c⟩
    have U1 := hid (HW3.out.quiet S1.out c)
    clear c HW3
    go_wp2_with fail
    refine (is_lit 0 128 128 rfl (by decide) [] [204, 128] (by simp) (by decide +kernel) w1.heap.size _ U1.out.rows U1.out.size).mono ?_
    rintro e u2 ⟨rfl, c⟩
    have U2 := hid (U1.out.quiet S1.out c)
    clear c U1
    go_wp2_with fail
    refine (is_lit 0 256 256 rfl (by decide) [] [205, 1, 0] (by simp) (by decide +kernel) w1.heap.size _ U2.out.rows U2.out.size).mono ?_
    rintro e u3 ⟨rfl, c⟩
    have U3 := hid (U2.out.quiet S1.out c)
    clear c U2
    go_wp2_with fail
    refine (is_lit 0 65536 65536 rfl (by decide) [] [206, 0, 1, 0, 0] (by simp) (by decide +kernel) w1.heap.size _ U3.out.rows U3.out.size).mono ?_
    rintro e u4 ⟨rfl, c⟩
    have U4 := hid (U3.out.quiet S1.out c)
    clear c U3
    go_wp2_with fail
    refine (is_lit 0 4294967296 4294967296 rfl (by decide) [] [207, 0, 0, 0, 1, 0, 0, 0, 0] (by simp) (by decide +kernel) w1.heap.size _ U4.out.rows U4.out.size).mono ?_
    rintro e u5 ⟨rfl, c⟩
    have U5 := hid (U4.out.quiet S1.out c)
    clear c U4
    go_wp2_with fail
    refine (is_lit 1 0 0 rfl (by decide) [97, 98, 99] [196, 3, 97, 98, 99] (by simp) (by decide +kernel) w1.heap.size _ U5.out.rows U5.out.size).mono ?_
    rintro e u6 ⟨rfl, c⟩
    have U6 := hid (U5.out.quiet S1.out c)
    clear c U5
    go_wp2_with fail
    refine (is_lit 2 0 0 rfl (by decide) [97, 98] [162, 97, 98] (by simp) (by decide +kernel) w1.heap.size _ U6.out.rows U6.out.size).mono ?_
    rintro e u7 ⟨rfl, c⟩
    have U7 := hid (U6.out.quiet S1.out c)
    clear c U6
    go_wp2_with fail
    rw [show ({ data := #[217, 32] } : ByteArray) ++ { data := A.toArray } = ⟨([217, 32] ++ A).toArray⟩ from str_app [217, 32] A]
    refine (is_lit 2 0 0 rfl (by decide) A ([217, 32] ++ A) (by omega) (by rw [HA.out]; decide +kernel) w1.heap.size _ U7.out.rows U7.out.size).mono ?_
    rintro e u8 ⟨rfl, c⟩
    have U8 := hid (U7.out.quiet S1.out c)
    clear c U7
    go_wp2_with fail
    refine (is_lit 3 3 3 rfl (by decide) [] [147] (by simp) (by decide +kernel) w1.heap.size _ U8.out.rows U8.out.size).mono ?_
    rintro e u9 ⟨rfl, c⟩
    have U9 := hid (U8.out.quiet S1.out c)
    clear c U8
    go_wp2_with fail
    refine (is_lit 3 16 16 rfl (by decide) [] [220, 0, 16] (by simp) (by decide +kernel) w1.heap.size _ U9.out.rows U9.out.size).mono ?_
    rintro e u10 ⟨rfl, c⟩
    have U10 := hid (U9.out.quiet S1.out c)
    clear c U9
    go_wp2_with fail
    refine (is_lit 4 15 15 rfl (by decide) [] [143] (by simp) (by decide +kernel) w1.heap.size _ U10.out.rows U10.out.size).mono ?_
    rintro e u11 ⟨rfl, c⟩
    have U11 := hid (U10.out.quiet S1.out c)
    clear c U10
    go_wp2_with fail
    refine (is_lit 4 16 16 rfl (by decide) [] [222, 0, 16] (by simp) (by decide +kernel) w1.heap.size _ U11.out.rows U11.out.size).mono ?_
    rintro e u12 ⟨rfl, c⟩
    have U12 := hid (U11.out.quiet S1.out c)
    clear c U11
    go_wp2_with fail
    refine (plen_any g w1.heap.size [] _ U12.out.isP).mono ?_
    rintro e u13 ⟨rfl, rfl⟩
    go_wp2_with fail
    refine (ptext_any g w1.heap.size [] _ U12.out.isP).mono ?_
    rintro e u13 ⟨rfl, rfl⟩
    go_wp2
    go_ret
    exact ⟨rfl, U12.out.below⟩
end Go.Proofs.YtcfohdkdppiekaaDoor
