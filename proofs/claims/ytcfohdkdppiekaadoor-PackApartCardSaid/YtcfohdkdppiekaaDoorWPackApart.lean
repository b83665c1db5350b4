/- PackApart: the walk. -/
import Derived.Test.YtcfohdkdppiekaaDoorSpecApart
import Derived.Test.YtcfohdkdppiekaaDoorOpenThing
namespace Go.Proofs.YtcfohdkdppiekaaDoor
open Go.RowKit Go.Proofs
def srt (S : Int) : Int := Int.tmod S 5 % 5
theorem srt_range (S : Int) : 0 ≤ srt S ∧ srt S ≤ 4 := by
  unfold srt
  omega
set_option maxRecDepth 100000 in
set_option maxHeartbeats 2000000 in
theorem sorted_any (S N Z : Int) (s : List UInt8) (w : World) :
    Calls Tryd.prog 16 #[thing S N s Z] w fun e w' => e = .returned (thing (srt S) N s Z) ∧ Below w.heap.size w w' := by
  have h1 := Int.lt_tmod_of_pos S (show (0 : Int) < 5 by decide)
  have h2 := Int.tmod_lt_of_pos S (show (0 : Int) < 5 by decide)
  go_enter Tryd.func16, Tryd.ntmps16
  go_wp2
  refine bodyPost_ret (v := thing (srt S) N s Z) (by simp [results, Tryd.results16, go_sem, srt]) rfl ⟨rfl, ?_⟩
  exact ((Below.refl _ _).alloc (Nat.le_refl _) _).alloc (by simp) _
set_option maxRecDepth 100000 in
set_option maxHeartbeats 2000000 in
theorem alike_any (t u : Th) (ht : thOk t) (hu : thOk u) (w : World) :
    Calls Tryd.prog 19 #[thing t.1 (t.2.1 : Int) t.2.2.1 t.2.2.2, thing u.1 (u.2.1 : Int) u.2.2.1 u.2.2.2] w fun e w' => e = .returned (.bool (alikeB t u)) ∧ Below w.heap.size w w' := by
  obtain ⟨S, N, s, Z⟩ := t
  obtain ⟨S', N', s', Z'⟩ := u
  obtain ⟨o1, o2, o3, o4⟩ := ht
  obtain ⟨p1, p2, p3, p4⟩ := hu
  simp only at o1 o2 o3 o4 p1 p2 p3 p4 ⊢
  by_cases hS : S = S'
  · subst hS
    by_cases hi : isTxt S = true
    · have hB : alikeB (S, N, s, Z) (S, N', s', Z') = (thText s Z == thText s' Z') := by
        unfold alikeB
        simp [hi, thTxt]
      have hS2 : S = 1 ∨ S = 2 := by simpa [isTxt] using hi
      rw [hB]
      clear hB hi
      rcases hS2 with rfl | rfl
      · go_enter Tryd.func19, Tryd.ntmps19
        go_wp2_with fail
        obtain ⟨w1, hw1⟩ : ∃ w1, w1 = (w.alloc (.cells #[.int .i64 1, .int .u64 (N : Int), .string ⟨s.toArray⟩, .int .u32 Z] 30)).alloc (.cells #[.int .i64 1, .int .u64 (N' : Int), .string ⟨s'.toArray⟩, .int .u32 Z'] 30) := ⟨_, rfl⟩
        have b1 : Below w.heap.size w w1 := by rw [hw1]; exact ((Below.refl _ _).alloc (Nat.le_refl _) _).alloc (by simp) _
        have a1 : arr w1 w.heap.size 30 [.int .i64 1, .int .u64 (N : Int), .string ⟨s.toArray⟩, .int .u32 Z] := by rw [hw1]; exact (arr.new w 30 [.int .i64 1, .int .u64 (N : Int), .string ⟨s.toArray⟩, .int .u32 Z]).alloc _
        have a2 : arr w1 (w.heap.size + 1) 30 [.int .i64 1, .int .u64 (N' : Int), .string ⟨s'.toArray⟩, .int .u32 Z'] := by rw [hw1]; exact arr.newAt _ 30 [.int .i64 1, .int .u64 (N' : Int), .string ⟨s'.toArray⟩, .int .u32 Z'] (w.heap.size + 1) (by simp)
        rw [← hw1]
        have d0 := a1.cell 0 _ rfl
        have d1 := a1.cell 1 _ rfl
        have d2 := a1.cell 2 _ rfl
        have d3 := a1.cell 3 _ rfl
        have e0 := a2.cell 0 _ rfl
        have e1 := a2.cell 1 _ rfl
        have e2 := a2.cell 2 _ rfl
        have e3 := a2.cell 3 _ rfl
        have l1 := a1.lt
        have l2 := a2.lt
        clear hw1 a1 a2
        refine wp_region_later_lit (by kernel_rfl) (by kernel_rfl) ?_
        repeat (go_big_quiet_step ((go_at_call 11; exact later_call (text_any _ _ _ _ ⟨by omega, by omega⟩ (by omega) _))))
        refine wpQuiet_nil fun w4 hw4 => ?_
        obtain ⟨u, rfl⟩ := hw4
        have b4 := below_all b1 u.below
        obtain ⟨w4, hw4⟩ : ∃ w4, w4 = later w1 u := ⟨_, rfl⟩
        rw [show u.w = w4 from hw4.symm] at b4
        rw [← hw4]
        clear hw4 b1 d0 d1 d2 d3 e0 e1 e2 e3
        go_wp2
        go_ret
        exact ⟨rfl, b4⟩
      · go_enter Tryd.func19, Tryd.ntmps19
        go_wp2_with fail
        obtain ⟨w1, hw1⟩ : ∃ w1, w1 = (w.alloc (.cells #[.int .i64 2, .int .u64 (N : Int), .string ⟨s.toArray⟩, .int .u32 Z] 30)).alloc (.cells #[.int .i64 2, .int .u64 (N' : Int), .string ⟨s'.toArray⟩, .int .u32 Z'] 30) := ⟨_, rfl⟩
        have b1 : Below w.heap.size w w1 := by rw [hw1]; exact ((Below.refl _ _).alloc (Nat.le_refl _) _).alloc (by simp) _
        have a1 : arr w1 w.heap.size 30 [.int .i64 2, .int .u64 (N : Int), .string ⟨s.toArray⟩, .int .u32 Z] := by rw [hw1]; exact (arr.new w 30 [.int .i64 2, .int .u64 (N : Int), .string ⟨s.toArray⟩, .int .u32 Z]).alloc _
        have a2 : arr w1 (w.heap.size + 1) 30 [.int .i64 2, .int .u64 (N' : Int), .string ⟨s'.toArray⟩, .int .u32 Z'] := by rw [hw1]; exact arr.newAt _ 30 [.int .i64 2, .int .u64 (N' : Int), .string ⟨s'.toArray⟩, .int .u32 Z'] (w.heap.size + 1) (by simp)
        rw [← hw1]
        have d0 := a1.cell 0 _ rfl
        have d1 := a1.cell 1 _ rfl
        have d2 := a1.cell 2 _ rfl
        have d3 := a1.cell 3 _ rfl
        have e0 := a2.cell 0 _ rfl
        have e1 := a2.cell 1 _ rfl
        have e2 := a2.cell 2 _ rfl
        have e3 := a2.cell 3 _ rfl
        have l1 := a1.lt
        have l2 := a2.lt
        clear hw1 a1 a2
        refine wp_region_later_lit (by kernel_rfl) (by kernel_rfl) ?_
        repeat (go_big_quiet_step ((go_at_call 11; exact later_call (text_any _ _ _ _ ⟨by omega, by omega⟩ (by omega) _))))
        refine wpQuiet_nil fun w4 hw4 => ?_
        obtain ⟨u, rfl⟩ := hw4
        have b4 := below_all b1 u.below
        obtain ⟨w4, hw4⟩ : ∃ w4, w4 = later w1 u := ⟨_, rfl⟩
        rw [show u.w = w4 from hw4.symm] at b4
        rw [← hw4]
        clear hw4 b1 d0 d1 d2 d3 e0 e1 e2 e3
        go_wp2
        go_ret
        exact ⟨rfl, b4⟩
    · have hB : alikeB (S, N, s, Z) (S, N', s', Z') = (N == N') := by
        unfold alikeB
        simp [hi]
      have h1 : ¬ S = 1 := fun h => hi (by rw [h]; rfl)
      have h2 : ¬ S = 2 := fun h => hi (by rw [h]; rfl)
      have k1 : (S == 1) = false := by simpa using h1
      have k2 : (S == 2) = false := by simpa using h2
      have e : ((N : Int) == (N' : Int)) = (N == N') := by
        rw [Bool.eq_iff_iff, beq_iff_eq, beq_iff_eq]; omega
      rw [hB]
      clear hB hi
      go_enter Tryd.func19, Tryd.ntmps19
      go_wp2
      go_ret
      refine ⟨?_, ((Below.refl _ _).alloc (Nat.le_refl _) _).alloc (by simp) _⟩
      first | rfl | (rw [e])
  · have hB : alikeB (S, N, s, Z) (S', N', s', Z') = false := by
      unfold alikeB
      simp [hS]
    have k1 : (S == S') = false := by simpa using hS
    have k2 : (S != S') = true := by simpa using hS
    rw [hB]
    clear hB
    go_enter Tryd.func19, Tryd.ntmps19
    go_wp2
    go_ret
    exact ⟨rfl, ((Below.refl _ _).alloc (Nat.le_refl _) _).alloc (by simp) _⟩
theorem laid_two (R : Int) (N : Nat) (hn : N < 2 ^ 64) (s : List UInt8) (hs : s.length ≤ 9223372036854775807) (Z : Int) (hz : 0 ≤ Z ∧ Z < 4294967296) (n : Int) (hN : (N : Int) = n) (X : List UInt8) (c : Int) (hx : layOf R N (thText s Z) = (X, c)) (b : Bool) (hb : decide (c = 0) = b) (B : Nat) (w : World) (hR : RowsIn w B) (hBw : B ≤ w.heap.size) :
    Calls Tryd.prog 17 #[.agg #[.int .i64 R, .int .u64 n, .string ⟨s.toArray⟩, .int .u32 Z]] w fun e w' => e = .returned (.tuple #[.string ⟨(if b then X else []).toArray⟩, .bool b]) ∧ Below w.heap.size w w' := by
  subst hN
  refine (laid_any R N hn s hs Z hz B w hR hBw (X, c) hx).mono ?_
  rintro e w' ⟨rfl, hb'⟩
  refine ⟨?_, hb'⟩
  rw [← hb]
  by_cases h : c = 0 <;> simp [h]
set_option maxRecDepth 100000 in
set_option maxHeartbeats 4000000 in
theorem packApart_any (t : Th) (v : Value) (ht : isThing v t) (u : Th) (v' : Value) (hu : isThing v' u) (w : World) (hR : RowsIn w w.heap.size) :
    Calls Tryd.prog 5 #[v, v'] w fun e w' => e = .returned (.bool true) ∧ Below w.heap.size w w' := by
  obtain ⟨S, N, s, Z⟩ := t
  obtain ⟨S', N', s', Z'⟩ := u
  obtain ⟨ht, rfl⟩ := ht
  obtain ⟨hu, rfl⟩ := hu
  simp only
  have HR := hid hR
  have HT := hid ht
  have HU := hid hu
  obtain ⟨n, hn⟩ : ∃ n : Int, (N : Int) = n := ⟨_, rfl⟩
  obtain ⟨n', hn'⟩ : ∃ n' : Int, (N' : Int) = n' := ⟨_, rfl⟩
  rw [hn, hn']
  have HN := hid hn
  have HN' := hid hn'
  clear hR ht hu hn hn'
  go_enter Tryd.func5, Tryd.ntmps5
  go_wp2_with fail
  obtain ⟨w1, hw1⟩ : ∃ w1, w1 = (w.alloc (.cells #[.int .i64 S, .int .u64 n, .string ⟨s.toArray⟩, .int .u32 Z] 30)).alloc (.cells #[.int .i64 S', .int .u64 n', .string ⟨s'.toArray⟩, .int .u32 Z'] 30) := ⟨_, rfl⟩
  have b1 : Below w.heap.size w w1 := by rw [hw1]; exact ((Below.refl _ _).alloc (Nat.le_refl _) _).alloc (by simp) _
  have a1 : arr w1 w.heap.size 30 [.int .i64 S, .int .u64 n, .string ⟨s.toArray⟩, .int .u32 Z] := by rw [hw1]; exact (arr.new w 30 [.int .i64 S, .int .u64 n, .string ⟨s.toArray⟩, .int .u32 Z]).alloc _
  have a2 : arr w1 (w.heap.size + 1) 30 [.int .i64 S', .int .u64 n', .string ⟨s'.toArray⟩, .int .u32 Z'] := by rw [hw1]; exact arr.newAt _ 30 [.int .i64 S', .int .u64 n', .string ⟨s'.toArray⟩, .int .u32 Z'] (w.heap.size + 1) (by simp)
  rw [← hw1]
  clear hw1
  refine (works_any w.heap.size w1 (HR.out.keep b1) b1.size).mono ?_
  rintro e w2 ⟨rfl, c2⟩
  have B2 := hid (below_all b1 c2)
  replace a1 := a1.keep c2
  replace a2 := a2.keep c2
  have d0 := a1.cell 0 _ rfl
  have d1 := a1.cell 1 _ rfl
  have d2 := a1.cell 2 _ rfl
  have d3 := a1.cell 3 _ rfl
  have l1 := a1.lt
  have A1 := hid a1
  have A2 := hid a2
  clear a1 a2 b1 c2
  go_wp2_with fail
  refine (sorted_any S n Z s w2).mono ?_
  rintro e w3 ⟨rfl, c3⟩
  have B3 := hid (below_all B2.out c3)
  have A3 := hid (A1.out.keep c3)
  have A4 := hid (A2.out.keep c3)
  clear d0 d1 d2 d3 c3 B2 A1 A2
  obtain ⟨R, hRr⟩ : ∃ R, R = srt S := ⟨_, rfl⟩
  rw [← hRr]
  have HRr := hid hRr
  clear hRr
  go_wp2_with ((refine wpList_store_arr rfl 30 _ _ rfl w.heap.size [.int .i64 R, .int .u64 n, .string ⟨s.toArray⟩, .int .u32 Z] rfl rfl _ _ A3.out (by kernel_rfl) rfl rfl ?_; intro w4 hw4; have a5 := A3.out.row [.int .i64 R, .int .u64 n, .string ⟨s.toArray⟩, .int .u32 Z]; have a6 := A4.out.rowOther (g := w.heap.size) (by omega) (#[.int .i64 R, .int .u64 n, .string ⟨s.toArray⟩, .int .u32 Z] : Array Value); have b4 := below_setRow' B3.out (Nat.le_refl _) (#[.int .i64 R, .int .u64 n, .string ⟨s.toArray⟩, .int .u32 Z] : Array Value); rw [← hw4] at a5 a6 b4; have e0 := a6.cell 0 _ rfl; have e1 := a6.cell 1 _ rfl; have e2 := a6.cell 2 _ rfl; have e3 := a6.cell 3 _ rfl; have l2 := a6.lt; have A5 := hid a5; have A6 := hid a6; have B4 := hid b4; clear hw4 a5 a6 b4 A3 A4 B3))
  refine (sorted_any S' n' Z' s' w4).mono ?_
  rintro e w5 ⟨rfl, c5⟩
  have B5 := hid (below_all B4.out c5)
  have A7 := hid (A5.out.keep c5)
  have A8 := hid (A6.out.keep c5)
  clear e0 e1 e2 e3 l2 c5 B4 A5 A6
  obtain ⟨R', hR'⟩ : ∃ R', R' = srt S' := ⟨_, rfl⟩
  rw [← hR']
  have HR' := hid hR'
  clear hR'
  go_wp2_with ((refine wpList_store_arr rfl 30 _ _ rfl (w.heap.size + 1) [.int .i64 R', .int .u64 n', .string ⟨s'.toArray⟩, .int .u32 Z'] rfl rfl _ _ A8.out (by kernel_rfl) rfl rfl ?_; intro w6 hw6; have a5 := A8.out.row [.int .i64 R', .int .u64 n', .string ⟨s'.toArray⟩, .int .u32 Z']; have a6 := A7.out.rowOther (g := w.heap.size + 1) (by omega) (#[.int .i64 R', .int .u64 n', .string ⟨s'.toArray⟩, .int .u32 Z'] : Array Value); have b4 := below_setRow' B5.out (Nat.le_succ _) (#[.int .i64 R', .int .u64 n', .string ⟨s'.toArray⟩, .int .u32 Z'] : Array Value); rw [← hw6] at a5 a6 b4; have e0 := a6.cell 0 _ rfl; have e1 := a6.cell 1 _ rfl; have e2 := a6.cell 2 _ rfl; have e3 := a6.cell 3 _ rfl; have l2 := a6.lt; have A1 := hid a6; have A2 := hid a5; have B6 := hid b4; clear hw6 a5 a6 b4 A7 A8 B5))
  obtain ⟨X, cx, hx⟩ : ∃ X cx, layOf R N (thText s Z) = (X, cx) := ⟨_, _, rfl⟩
  obtain ⟨Y, cy, hy⟩ : ∃ Y cy, layOf R' N' (thText s' Z') = (Y, cy) := ⟨_, _, rfl⟩
  have HX := hid hx
  have HY := hid hy
  clear hx hy
  obtain ⟨bx, hbx⟩ : ∃ bx : Bool, decide (cx = 0) = bx := ⟨_, rfl⟩
  obtain ⟨bY, hby⟩ : ∃ bY : Bool, decide (cy = 0) = bY := ⟨_, rfl⟩
  have HBX := hid hbx
  have HBY := hid hby
  clear hbx hby
  cases bx <;> cases bY
  all_goals
    refine (laid_two R N HT.out.1 s HT.out.2.1 Z HT.out.2.2 n HN.out X cx HX.out _ HBX.out w.heap.size w6 (HR.out.keep B6.out) B6.out.size).mono ?_
    rintro e w7 ⟨rfl, c7⟩
    first | rw [if_pos rfl] | rw [if_neg Bool.false_ne_true]
    have B7 := hid (below_all B6.out c7)
    have A3 := hid (A1.out.keep c7)
    have A4 := hid (A2.out.keep c7)
    clear e0 e1 e2 e3 l2 l1 c7 B6 A1 A2
    have e0 := A4.out.cell 0 _ rfl
    have e1 := A4.out.cell 1 _ rfl
    have e2 := A4.out.cell 2 _ rfl
    have e3 := A4.out.cell 3 _ rfl
    have l2 := A4.out.lt
    go_wp2_with fail
    refine (laid_two R' N' HU.out.1 s' HU.out.2.1 Z' HU.out.2.2 n' HN'.out Y cy HY.out _ HBY.out w.heap.size w7 (HR.out.keep B7.out) B7.out.size).mono ?_
    rintro e w8 ⟨rfl, c8⟩
    first | rw [if_pos rfl] | rw [if_neg Bool.false_ne_true]
    have B8 := hid (below_all B7.out c8)
    have A1 := hid (A3.out.keep c8)
    have A2 := hid (A4.out.keep c8)
    clear e0 e1 e2 e3 l2 c8 B7 A3 A4
  · go_wp2
    go_ret
    exact ⟨rfl, B8.out⟩
  · go_wp2
    go_ret
    exact ⟨rfl, B8.out⟩
  · go_wp2
    go_ret
    exact ⟨rfl, B8.out⟩
  · skip
    have hcx : cx = 0 := by simpa using HBX.out
    have hcy : cy = 0 := by simpa using HBY.out
    have r1 := srt_range S
    have r2 := srt_range S'
    rw [← HRr.out] at r1
    rw [← HR'.out] at r2
    have e1 : thLay (R, N, s, Z) = (X, cx) := HX.out
    have e2 : thLay (R', N', s', Z') = (Y, cy) := HY.out
    obtain ⟨hP, hE, hne⟩ := apart_prefix (R, N, s, Z) (R', N', s', Z') HT.out HU.out r1.1 r1.2 r2.1 r2.2 (by rw [e1]; exact hcx) (by rw [e2]; exact hcy)
    rw [e1, e2] at hP hE
    rw [e1] at hne
    simp only at hP hE hne
    have HAL := hid (fun w => alike_any (R, N, s, Z) (R', N', s', Z') HT.out HU.out w)
    obtain ⟨al, hal⟩ : ∃ al, al = alikeB (R, N, s, Z) (R', N', s', Z') := ⟨_, rfl⟩
    rw [← hal] at hP hE HAL
    have hpre : Lib.hasPrefix Y X = al := by
      rw [Bool.eq_iff_iff, ← hP]
      unfold Lib.hasPrefix
      exact List.isPrefixOf_iff_prefix
    have HPQ : Hid (∀ w, Calls Tryd.prog 18 #[.string ⟨Y.toArray⟩, .string ⟨X.toArray⟩] w fun e w' => e = .returned (.bool al) ∧ Below w.heap.size w w') := fun w => by
      refine (Tryd.strings_HasPrefix ⟨Y.toArray⟩ ⟨X.toArray⟩ w).mono ?_
      rintro e w' ⟨rfl, rfl⟩
      rw [← hpre]
      exact ⟨rfl, Below.refl _ _⟩
    have hne' : X.isEmpty = false := by
      cases X with
      | nil => exact absurd rfl hne
      | cons _ _ => rfl
    have HAL2 : Hid (∀ w, Calls Tryd.prog 19 #[.agg #[.int .i64 R, .int .u64 n, .string ⟨s.toArray⟩, .int .u32 Z], .agg #[.int .i64 R', .int .u64 n', .string ⟨s'.toArray⟩, .int .u32 Z']] w fun e w' => e = .returned (.bool al) ∧ Below w.heap.size w w') := by
      rw [← HN.out, ← HN'.out]; exact HAL
    have f0 := A1.out.cell 0 _ rfl
    have f1 := A1.out.cell 1 _ rfl
    have f2 := A1.out.cell 2 _ rfl
    have f3 := A1.out.cell 3 _ rfl
    have g0 := A2.out.cell 0 _ rfl
    have g1 := A2.out.cell 1 _ rfl
    have g2 := A2.out.cell 2 _ rfl
    have g3 := A2.out.cell 3 _ rfl
    have l1 := A1.out.lt
    have l2 := A2.out.lt
    clear HAL hpre hP hne e1 e2 r1 r2 hcx hcy hal
    cases al with
    | true =>
      obtain rfl : X = Y := hE.2 rfl
      clear hE
      go_wp2_with fail
      refine wp_region_later_lit (by kernel_rfl) (by kernel_rfl) ?_
      repeat (go_big_quiet_step ((first | (go_at_call 18; exact later_call (HPQ.out _)) | (go_at_call 19; exact later_call (HAL2.out _)))))
      refine wpQuiet_nil fun w9 hw9 => ?_
      obtain ⟨u9, rfl⟩ := hw9
      have b9 := below_all B8.out u9.below
      obtain ⟨w9, hw9⟩ : ∃ w9, w9 = later w8 u9 := ⟨_, rfl⟩
      rw [show u9.w = w9 from hw9.symm] at b9
      rw [← hw9]
      clear hw9 f0 f1 f2 f3 g0 g1 g2 g3 B8 A1 A2
      go_wp2
      go_ret
      exact ⟨rfl, b9⟩
    | false =>
      have hq : (X == Y) = false := by
        rw [beq_eq_false_iff_ne]; intro e; exact absurd (hE.1 e) (by decide)
      have hq2 : ¬ X = Y := by intro e; exact absurd (hE.1 e) (by decide)
      clear hE
      go_wp2_with fail
      refine wp_region_later_lit (by kernel_rfl) (by kernel_rfl) ?_
      repeat (go_big_quiet_step ((first | (go_at_call 18; exact later_call (HPQ.out _)) | (go_at_call 19; exact later_call (HAL2.out _)))))
      refine wpQuiet_nil fun w9 hw9 => ?_
      obtain ⟨u9, rfl⟩ := hw9
      have b9 := below_all B8.out u9.below
      obtain ⟨w9, hw9⟩ : ∃ w9, w9 = later w8 u9 := ⟨_, rfl⟩
      rw [show u9.w = w9 from hw9.symm] at b9
      rw [← hw9]
      clear hw9 f0 f1 f2 f3 g0 g1 g2 g3 B8 A1 A2
      go_wp2
      go_ret
      exact ⟨rfl, b9⟩
end Go.Proofs.YtcfohdkdppiekaaDoor
