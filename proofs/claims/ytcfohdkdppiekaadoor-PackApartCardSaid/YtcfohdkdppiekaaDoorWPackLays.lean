/- PackLays: the walk. -/
import Derived.Test.YtcfohdkdppiekaaDoorWPackWorks
namespace Go.Proofs.YtcfohdkdppiekaaDoor
open Go.RowKit Go.Proofs
/-- a thing: its sort, its number, its bytes, how many noughts -/
abbrev Th := Int × Nat × List UInt8 × Int
def thOk (t : Th) : Prop := t.2.1 < 2 ^ 64 ∧ t.2.2.1.length ≤ 9223372036854775807 ∧ 0 ≤ t.2.2.2 ∧ t.2.2.2 < 4294967296
def thLay (t : Th) : List UInt8 × Int := layOf t.1 t.2.1 (thText t.2.2.1 t.2.2.2)
/-- v reads as the list L of things -/
def thingsAt (w : World) (B : Nat) (v : Value) (L : List Th) : Prop := ∃ A c, v = .slice A L.length c ∧ L.length ≤ 9223372036854775807 ∧
  ∀ i t, L[i]? = some t → thOk t ∧ ∃ b off, A = some ⟨b, off, none⟩ ∧ b < B ∧ w.cell? ⟨b, off + i * 4, none⟩ = some (.int .i64 t.1) ∧ w.cell? ⟨b, off + i * 4 + 1, none⟩ = some (.int .u64 (t.2.1 : Int)) ∧
    w.cell? ⟨b, off + i * 4 + 2, none⟩ = some (.string ⟨t.2.2.1.toArray⟩) ∧ w.cell? ⟨b, off + i * 4 + 3, none⟩ = some (.int .u32 t.2.2.2)
def lays (L : List Th) (k : Nat) : List UInt8 := ((L.take k).map fun t => (thLay t).1).flatten
theorem lays_succ (L : List Th) (k : Nat) (t : Th) (h : L[k]? = some t) : lays L (k + 1) = lays L k ++ (thLay t).1 := by
  obtain ⟨hk, he⟩ := List.getElem?_eq_some_iff.1 h
  unfold lays
  rw [List.take_succ_eq_append_getElem hk, List.map_append, List.flatten_append, he]; simp
theorem pick_len5 (sort n : Nat) : (pick (tab.getD sort []) n).length ≤ 9 := by
  by_cases h : sort < 5
  · have h1 : tab[sort]? = some (tab.getD sort []) := by
      have hl : sort < tab.length := h
      rw [List.getD_eq_getElem?_getD, List.getElem?_eq_getElem hl]; rfl
    exact pick_len _ (tab_mem h1) n
  · have : tab.getD sort [] = [] := by
      rw [List.getD_eq_getElem?_getD, List.getElem?_eq_none (by show 5 ≤ sort; omega)]; rfl
    rw [this]; simp [pick]
theorem wlay_len (i : Nat) (s : List UInt8) : (wlay (tab.getD i []) s).length ≤ 9 + s.length := by
  have := pick_len5 i s.length
  unfold wlay
  split
  · rw [List.length_append]; omega
  · exact Nat.zero_le _
theorem mlay_len (i : Nat) (n : Int) : (mlay (tab.getD i []) n).length ≤ 9 := by
  unfold mlay
  split
  · exact pick_len5 i _
  · exact Nat.zero_le _
theorem layOf_len (S : Int) (n : Nat) (s : List UInt8) : (layOf S n s).1.length ≤ 9 + s.length := by
  unfold layOf
  split
  · have := pick_len5 0 n; exact Nat.le_trans this (by omega)
  split
  · exact wlay_len 1 s
  split
  · exact wlay_len 2 s
  split
  · exact Nat.le_trans (mlay_len 3 _) (by omega)
  · exact Nat.le_trans (mlay_len 4 _) (by omega)
theorem thLay_len (t : Th) : (thLay t).1.length ≤ 70709 := by
  have h1 := layOf_len t.1 t.2.1 (thText t.2.2.1 t.2.2.2)
  have h2 := thText_len t.2.2.1 t.2.2.2
  unfold thLay; omega
theorem lays_len (L : List Th) (m : Nat) (hm : ∀ t : Th, (thLay t).1.length ≤ m) (k : Nat) : (lays L k).length ≤ k * m := by
  induction k with
  | zero => simp [lays]
  | succ k ih =>
    rw [Nat.succ_mul]
    cases h : L[k]? with
    | none =>
      have : lays L (k + 1) = lays L k := by
        unfold lays
        rw [List.take_of_length_le (by have := List.getElem?_eq_none_iff.1 h; omega), List.take_of_length_le (List.getElem?_eq_none_iff.1 h)]
      rw [this]; omega
    | some t =>
      have := hm t
      rw [lays_succ L k t h, List.length_append]; omega
theorem lays_len12 (L : List Th) (k : Nat) (hk : k ≤ 12) : (lays L k).length ≤ 900000 := by
  have h := lays_len L 70709 thLay_len k
  have h2 : k * 70709 ≤ 12 * 70709 := Nat.mul_le_mul_right _ hk
  omega
set_option maxRecDepth 100000 in
set_option maxHeartbeats 4000000 in
theorem packLays_any (L : List Th) (v : Value) (w : World) (hv : thingsAt w w.heap.size v L) (hR : RowsIn w w.heap.size) :
    Calls Tryd.prog 3 #[v] w fun e w' => e = .returned (.bool true) ∧ Below w.heap.size w w' := by
  obtain ⟨A, c, rfl, hlc, hx⟩ := hv
  have HR := hid hR
  have HX := hid hx
  clear hR hx
  go_enter Tryd.func3, Tryd.ntmps3
  go_wp2_with fail
  refine (pnew_any _).mono ?_
  rintro e w2 ⟨g, rfl, hg, hp2, hb2⟩
  have W2 := hid (⟨hb2, HR.out.keep hb2, hp2, hb2.size⟩ : WS w w2 g w.heap.size [])
  clear hg hp2 hb2
  go_wp2_with fail
  go_loopw [4, 5] (fun want i wr => ∃ k : Nat, k ≤ 12 ∧ k ≤ L.length ∧ i = .int .i64 (k : Int) ∧ want = .string ⟨(lays L k).toArray⟩ ∧ WS w wr g w.heap.size (lays L k)) (fun _ i _ => 12 - (intOf i).toNat)
  case atStart => exact ⟨0, by omega, by omega, rfl, rfl, W2.out⟩
  case round =>
    obtain ⟨k, hk12, hkl, rfl, rfl, hw⟩ := hrel
    have HW := hid hw
    obtain ⟨U, hU⟩ : ∃ U, U = lays L k := ⟨_, rfl⟩
    have hUl : U.length ≤ 900000 := by rw [hU]; exact lays_len12 L k hk12
    rw [← hU] at HW ⊢
    have HU := hid hU
    clear hw W2 hU
    by_cases hlt : k < L.length
    · by_cases h12 : k < 12
      · obtain ⟨⟨S, N, s, Z⟩, ht⟩ : ∃ t, L[k]? = some t := ⟨_, List.getElem?_eq_getElem hlt⟩
        obtain ⟨⟨o1, o2, o3, o4⟩, b, off, rfl, hb, c0, c1, c2, c3⟩ := HX.out k _ ht
        simp only at o1 o2 o3 o4 c0 c1 c2 c3
        have hsucc := lays_succ L k _ ht
        rw [← HU.out] at hsucc
        obtain ⟨x, hx⟩ : ∃ x, thLay (S, N, s, Z) = x := ⟨_, rfl⟩
        have hxl := thLay_len (S, N, s, Z)
        rw [hx] at hsucc hxl
        have HX2 := hid hx
        have HS := hid hsucc
        clear hx hsucc ht
        rw [← HW.out.below.cell (by exact hb)] at c0 c1 c2 c3
        have hbr : b < wr.heap.size := Nat.lt_of_lt_of_le hb HW.out.below.size
        obtain ⟨N', hN'⟩ : ∃ N' : Int, (N : Int) = N' := ⟨_, rfl⟩
        have hlt' : (k : Int) < (L.length : Int) := by omega
        have h12' : (k : Int) < 12 := by omega
        rw [hN'] at c1
        have HN := hid hN'
        clear hN'
        go_wp2_with fail
        rw [← HN.out]
        refine (lay_any S N o1 s o2 Z ⟨o3, o4⟩ g w.heap.size U wr HW.out.rows HW.out.isP (by omega) HW.out.size).mono ?_
        rintro e w3 ⟨rfl, hp3, hb3⟩
        rw [show layOf S N (thText s Z) = x from HX2.out] at hp3 ⊢
        rw [← HS.out] at hp3
        have W3 := hid (HW.out.step (Nat.le_refl _) hb3 hp3)
        rw [← hb3.cell (by exact hb)] at c0 c1 c2 c3
        have hbr3 : b < w3.heap.size := Nat.lt_of_lt_of_le hb W3.out.below.size
        clear hp3 hb3 HW hbr
        go_wp2_with fail
        refine wp_region_later_lit (by kernel_rfl) (by kernel_rfl) ?_
        repeat (go_big_quiet_step ((first | (go_at_call 11; exact later_call (text_any _ _ _ _ ⟨o3, o4⟩ o2 _)) | (go_at_call 10; rw [← HN.out]; exact later_call (rlaid_any _ _ o1 _ (by have := thText_len s Z; omega) _)))))
        refine wpQuiet_nil fun w4 hw4 => ?_
        obtain ⟨u, rfl⟩ := hw4
        have hb4 := u.below
        rw [show layOf S N (thText s Z) = x from HX2.out]
        obtain ⟨w4, hw4⟩ : ∃ w4, w4 = later w3 u := ⟨_, rfl⟩
        rw [show u.w = w4 from hw4.symm] at hb4
        rw [← hw4]
        have W4 := hid (W3.out.quiet (Nat.le_refl _) hb4)
        obtain ⟨X, cc⟩ := x
        simp only at hxl
        clear hw4 hb4 W3 c0 c1 c2 c3 hbr3
        go_wp2_with fail
        refine (plen_any g w.heap.size _ _ W4.out.isP).mono ?_
        rintro e w5 ⟨rfl, rfl⟩
        rw [HS.out, List.length_append]
        go_wp2
        go_roundw
        case rel =>
          refine ⟨k + 1, by omega, by omega, by go_num, ?_, W4.out⟩
          rw [HS.out, ← str_app]
        case measure => simp [intOf]; omega
      · obtain rfl : k = 12 := by omega
        have hlt' : (12 : Int) < (L.length : Int) := by omega
        go_wp2_with fail
        refine (ptext_any g w.heap.size _ _ HW.out.isP).mono ?_
        rintro e w5 ⟨rfl, rfl⟩
        go_wp2_with fail
        refine (works_any w.heap.size _ HW.out.rows HW.out.size).mono ?_
        rintro e w6 ⟨rfl, hb6⟩
        have W6 := hid (HW.out.quiet (Nat.le_refl _) hb6)
        clear hb6 HW
        go_wp2
        go_ret
        exact ⟨rfl, W6.out.below⟩
    · obtain rfl : k = L.length := by omega
      go_wp2_with fail
      refine (ptext_any g w.heap.size _ _ HW.out.isP).mono ?_
      rintro e w5 ⟨rfl, rfl⟩
      go_wp2_with fail
      refine (works_any w.heap.size _ HW.out.rows HW.out.size).mono ?_
      rintro e w6 ⟨rfl, hb6⟩
      have W6 := hid (HW.out.quiet (Nat.le_refl _) hb6)
      clear hb6 HW
      go_wp2
      go_ret
      exact ⟨rfl, W6.out.below⟩
end Go.Proofs.YtcfohdkdppiekaaDoor
