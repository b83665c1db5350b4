/- pack's writer: a row with more bytes is tried: contract. -/
import Derived.Test.YtcfohdkdppiekaaDoorWPut
namespace Go.Proofs.YtcfohdkdppiekaaDoor
open Go.RowKit Go.Proofs
/-- a number's last k bytes, the greatest ahead -/
def be (n : Nat) : Nat → List UInt8
  | 0 => []
  | k + 1 => UInt8.ofNat (n / 256 ^ k) :: be n k
theorem be_len (n : Nat) : ∀ k, (be n k).length = k
  | 0 => rfl
  | k + 1 => by simp [be, be_len n k]
theorem be_succ (n k : Nat) : be n (k + 1) = UInt8.ofNat (n / 256 ^ k) :: be n k := rfl
theorem arr_apart {w : World} {a b : Nat} {T U : TypeId} {xs ys : List Value} (h : arr w a T xs) (k : arr w b U ys) (hT : T ≠ U) : b ≠ a := by
  intro e
  subst e
  unfold arr at h k
  rw [h] at k
  simp only [Option.some.injEq, Obj.cells.injEq] at k
  exact hT k.2.1
theorem arr_setO {w : World} {g p : Nat} {T : TypeId} {xs : List Value} {v : Value} (h : arr w g T xs) (hne : g ≠ p) : arr (w.setCell ⟨p, 0, none⟩ v) g T xs := by
  unfold arr at *
  rw [Below.heap_setCell _ _ _ _ (by simpa using hne)]; exact h
set_option maxRecDepth 100000 in
set_option maxHeartbeats 4000000 in
theorem put_many (below : Int) (n f s : Nat) (nb wb g B : Nat) (l : List UInt8) (h0 : 0 ≤ below) (h1 : below = 0 ∨ (n : Int) < below) (hf : f < 256) (hn64 : n < 2 ^ 64) (hs0 : 0 < s) (hs8 : s ≤ 8) (w : World) (hn : arr w nb 27 [.int .u64 (n : Int)]) (hw : arr w wb 23 [.pointer (some ⟨g, 0, none⟩)])
    (hp : isP w B g l) (hl : l.length ≤ 10000000000) (hBw : B ≤ w.heap.size) :
    Calls Tryd.prog 39 #[.agg #[.int .u64 below, .int .u8 (f : Int), .int .i64 (s : Int)], .pointer (some ⟨nb, 0, none⟩), .pointer (some ⟨wb, 0, none⟩)] w fun e w' => e = .returned (.bool true) ∧ isP w' B g (l ++ UInt8.ofNat f :: be n s) ∧ Below B w w' := by
  have cn := hn.cell 0 _ rfl
  have ln := hn.lt
  have cw := hw.cell 0 _ rfl
  have lw := hw.lt
  obtain ⟨hB, A, m, c, ha, ho⟩ := hp
  have cg := ha.cell 0 _ rfl
  have lg := ha.lt
  have HA := hid ha
  have HO := hid ho
  have hs' : ¬ ((s : Int) = 0) := by omega
  clear ha ho
  obtain ⟨W1, hW1⟩ : ∃ W1, W1 = ((w.alloc (.cells #[.int .u64 below, .int .u8 (f : Int), .int .i64 (s : Int)] 71)).alloc (.cells #[.int .u8 (f : Int)] 5)).drew := ⟨_, rfl⟩
  have b1 : Below w.heap.size w W1 := by rw [hW1]; exact (((Below.refl _ _).alloc (Nat.le_refl _) _).alloc (by simp) _).drew
  have HO1 := hid (HO.out.keep b1)
  have hx1 : W1.heap.size = w.heap.size + 2 := by rw [hW1]; simp
  have hcx : W1.cell? ⟨w.heap.size + 1, 0, none⟩ = some (.int .u8 (f : Int)) := by
    rw [hW1]
    exact (arr.newAt _ 5 [.int .u8 (f : Int)] (w.heap.size + 1) (by simp)).cell 0 _ rfl
  have HB1 := hid b1
  have HW1 := hid hW1
  have HCX := hid hcx
  have HX1 := hid hx1
  have HR1 := hid (show arr W1 w.heap.size 71 [.int .u64 below, .int .u8 (f : Int), .int .i64 (s : Int)] from by rw [hW1]; exact (arr.new w 71 [.int .u64 below, .int .u8 (f : Int), .int .i64 (s : Int)]).alloc _)
  clear b1 hcx hx1 hW1
  by_cases hb0 : below = 0
  · subst hb0
    go_enter Tryd.func39, Tryd.ntmps39
    go_wp2
    refine wp_region_soft (fun w' => w'.cell? ⟨wb, 0, none⟩ = some (.pointer (some ⟨g, 0, none⟩)) ∧ w'.cell? ⟨g, 0, none⟩ = some (.slice A m c) ∧ w'.cell? ⟨nb, 0, none⟩ = some (.int .u64 (n : Int)) ∧ w'.cell? ⟨w.heap.size, 1, none⟩ = some (.int .u8 (f : Int))) [0, 1, 2, 3, 4, 5, 6] [7, 8, 9, 10, 11] 11 (by kernel_rfl) (by kernel_rfl) (by kernel_rfl) rfl rfl (by kernel_rfl) (fun o _ _ _ _ h => by cases o <;> exact h) ?_ ?_
    · go_simp
    refine softs_step rfl rfl (v := .pointer (some ⟨g, 0, none⟩)) (fun W hW => ?_) ?_
    · obtain ⟨s1, s2, s3, s4⟩ := hW
      go_simp
    refine softs_step rfl rfl (v := .pointer (some ⟨g, 0, none⟩)) (fun W hW => ?_) ?_
    · obtain ⟨s1, s2, s3, s4⟩ := hW
      go_simp
    refine softs_step rfl rfl (v := .pointer (some ⟨g, 0, none⟩)) (fun W hW => ?_) ?_
    · obtain ⟨s1, s2, s3, s4⟩ := hW
      go_simp
    refine softs_step rfl rfl (v := .pointer (some ⟨g, 0, none⟩)) (fun W hW => ?_) ?_
    · obtain ⟨s1, s2, s3, s4⟩ := hW
      go_simp
    refine softs_step rfl rfl (v := .slice A m c) (fun W hW => ?_) ?_
    · obtain ⟨s1, s2, s3, s4⟩ := hW
      go_simp
    refine softs_step rfl rfl (v := .pointer (some ⟨w.heap.size, 1, none⟩)) (fun W hW => ?_) ?_
    · obtain ⟨s1, s2, s3, s4⟩ := hW
      go_simp
    refine softs_step rfl rfl (v := .int .u8 (f : Int)) (fun W hW => ?_) ?_
    · obtain ⟨s1, s2, s3, s4⟩ := hW
      go_simp
    refine softs_done ?_
    refine effs_op rfl rfl ?_
    go_simp
    rw [← HW1.out]
    refine effs_op rfl rfl (wp_appendB (.tmp 36) (.tmp 39) rfl B (.slice A m c) l [UInt8.ofNat f] rfl HO1.out (w.heap.size + 1) 0 1 rfl ?_ ?_ ?_ ?_)
    · intro j hj
      obtain rfl : j = 0 := (by simpa using hj)
      exact HCX.out.trans (by simp; omega)
    · simp; omega
    · rw [HX1.out]; omega
    intro v7 w7 ho7 hg7
    obtain ⟨A7, n7, k7, rfl⟩ := own_form ho7
    obtain ⟨hp8, hb8, a7⟩ := isP.put hB HA.out HO.out HB1.out hg7 ho7 hBw
    have c7 := a7.cell 0 _ rfl
    have f7 := a7.free 0
    have aq7 := arr_keep hw HO.out HB1.out hg7 (by decide)
    have an7 := arr_keep hn HO.out HB1.out hg7 (by decide)
    have ar7 := arr_kept HR1.out (HO.out.keep HB1.out) hg7 (by decide)
    have q7 := aq7.cell 0 _ rfl
    have n7' := an7.cell 0 _ rfl
    have r7 := ar7.cell 1 _ rfl
    have HP8 := hid hp8
    have HB8 := hid hb8
    have an8 := arr_setO (v := .slice A7 n7 k7) an7 (arr_apart a7 an7 (by decide))
    have aq8 := arr_setO (v := .slice A7 n7 k7) aq7 (arr_apart a7 aq7 (by decide))
    have ar8 := arr_setO (v := .slice A7 n7 k7) ar7 (arr_apart a7 ar7 (by decide))
    clear hp8 hb8 a7 ho7 hg7
    have AN8 := hid an8
    have AQ8 := hid aq8
    have AR8 := hid ar8
    clear an8 aq8 ar8
    refine ⟨⟨q7, c7, n7', r7⟩, ?_⟩
    refine effs_op rfl rfl ?_
    go_simp
    refine effs_op rfl rfl ?_
    go_simp
    refine effs_last rfl rfl ?_
    go_simp
    clear c7 f7 aq7 an7 ar7 q7 n7' r7 cn cw cg
    obtain ⟨w8, hw8⟩ : ∃ w8, w8 = w7.setCell ⟨g, 0, none⟩ (.slice A7 n7 k7) := ⟨_, rfl⟩
    rw [← hw8] at HP8 HB8 AN8 AQ8 AR8
    rw [← hw8]
    clear hw8 HA HO HO1 HB1 HW1 HCX HX1 HR1
    have r8 := AR8.out.cell 2 _ rfl
    have l8 := AR8.out.lt
    go_wp2
    go_loopw [5] (fun i wr => ∃ k L, k ≤ s ∧ i = .int .i64 ((k : Int) - 1) ∧ isP wr B g L ∧ L ++ be n k = l ++ UInt8.ofNat f :: be n s ∧ Below B w wr ∧ arr wr nb 27 [.int .u64 (n : Int)] ∧ arr wr wb 23 [.pointer (some ⟨g, 0, none⟩)]) (fun i _ => (intOf i + 1).toNat)
    case atStart =>
      refine ⟨s, l ++ [UInt8.ofNat f], Nat.le_refl _, by simp, HP8.out, by simp, HB8.out, AN8.out, AQ8.out⟩
    case round =>
      clear HP8 HB8 AN8 AQ8 AR8 r8 l8
      obtain ⟨k, L, hk, rfl, hpr, hL, hbr, hnr, hqr⟩ := hrel
      rcases Nat.eq_zero_or_pos k with rfl | hk0
      · have hL2 : L = l ++ UInt8.ofNat f :: be n s := by simpa [be] using hL
        clear hL
        rw [hL2] at hpr
        have hk1 : ((0 : Nat) : Int) - 1 < 0 := by omega
        go_wp2
        go_ret
        exact ⟨rfl, hpr, hbr⟩
      · obtain ⟨j, rfl⟩ : ∃ j, k = j + 1 := ⟨k - 1, by omega⟩
        have ej : (((j + 1 : Nat) : Int) - 1) = (j : Int) := by omega
        rw [ej]
        have hLl : L.length + (j + 1) = l.length + 1 + s := by
          have := congrArg List.length hL
          simp [be_len] at this; omega
        have HL := hid hL
        have HLL := hid hLl
        obtain ⟨_, A', m', c', ha', ho'⟩ := hpr
        have cn' := hnr.cell 0 _ rfl
        have cw' := hqr.cell 0 _ rfl
        have cg' := ha'.cell 0 _ rfl
        have ln' := hnr.lt
        have lw' := hqr.lt
        have lg' := ha'.lt
        have HA' := hid ha'
        have HO' := hid ho'
        have HBR := hid hbr
        have hBr : B ≤ wr.heap.size := Nat.le_trans hBw hbr.size
        clear ha' ho' hL hLl hbr
        go_wp2
        refine wp_region_soft (fun w' => w'.cell? ⟨wb, 0, none⟩ = some (.pointer (some ⟨g, 0, none⟩)) ∧ w'.cell? ⟨g, 0, none⟩ = some (.slice A' m' c') ∧ w'.cell? ⟨nb, 0, none⟩ = some (.int .u64 (n : Int))) [0, 1, 2, 3, 4, 5, 6, 7, 8, 9] [10, 11, 12, 13, 14] 14 (by kernel_rfl) (by kernel_rfl) (by kernel_rfl) rfl rfl (by kernel_rfl) (fun o _ _ _ _ h => by cases o <;> exact h) ?_ ?_
        · go_simp
        refine softs_step rfl rfl (v := .pointer (some ⟨g, 0, none⟩)) (fun W hW => ?_) ?_
        · obtain ⟨s1, s2, s3⟩ := hW
          go_simp
        refine softs_step rfl rfl (v := .pointer (some ⟨g, 0, none⟩)) (fun W hW => ?_) ?_
        · obtain ⟨s1, s2, s3⟩ := hW
          go_simp
        refine softs_step rfl rfl (v := .pointer (some ⟨g, 0, none⟩)) (fun W hW => ?_) ?_
        · obtain ⟨s1, s2, s3⟩ := hW
          go_simp
        refine softs_step rfl rfl (v := .pointer (some ⟨g, 0, none⟩)) (fun W hW => ?_) ?_
        · obtain ⟨s1, s2, s3⟩ := hW
          go_simp
        refine softs_step rfl rfl (v := .slice A' m' c') (fun W hW => ?_) ?_
        · obtain ⟨s1, s2, s3⟩ := hW
          go_simp
        refine softs_step rfl rfl (v := .int .u64 (n : Int)) (fun W hW => ?_) ?_
        · obtain ⟨s1, s2, s3⟩ := hW
          go_simp
        refine softs_step rfl rfl (v := .int .i64 (j : Int)) (fun W hW => ?_) ?_
        · obtain ⟨s1, s2, s3⟩ := hW
          go_simp
        refine softs_step rfl rfl (v := .int .i64 (8 * (j : Int))) (fun W hW => ?_) ?_
        · obtain ⟨s1, s2, s3⟩ := hW
          go_simp
          have e8 : IntKind.i64.wrap (8 * (j : Int)) = 8 * (j : Int) := by rw [IntKind.wrap_i64]; omega
          rw [e8]
        refine softs_step rfl rfl (v := .int .u64 ((n / 256 ^ j : Nat) : Int)) (fun W hW => ?_) ?_
        · obtain ⟨s1, s2, s3⟩ := hW
          go_simp
          have e1 : (8 * (j : Int)).toNat = 8 * j := by omega
          have e2 : ((2 ^ (8 * j) : Nat) : Int) = ((256 ^ j : Nat) : Int) := by rw [Nat.pow_mul]
          push_cast at e2
          rw [e1, e2]
        obtain ⟨Z, hZ⟩ : ∃ Z, Z = n / 256 ^ j := ⟨_, rfl⟩
        have HZ := hid hZ
        rw [← hZ]
        clear hZ
        refine softs_step rfl rfl (v := .int .u8 ((Z % 256 : Nat) : Int)) (fun W hW => ?_) ?_
        · obtain ⟨s1, s2, s3⟩ := hW
          go_simp
          rw [IntKind.wrap_u8]
        obtain ⟨X, hX⟩ : ∃ X, X = Z % 256 := ⟨_, rfl⟩
        have hXb : X < 256 := by omega
        have HX := hid hX
        rw [← hX]
        clear hX
        refine softs_done ?_
        obtain ⟨W2, hW2⟩ : ∃ W2, W2 = (wr.alloc (.cells #[.int .u8 (X : Int)] 5)).drew := ⟨_, rfl⟩
        have b2 : Below wr.heap.size wr W2 := by rw [hW2]; exact ((Below.refl _ _).alloc (Nat.le_refl _) _).drew
        have HO2 := hid (HO'.out.keep b2)
        have hx2 : W2.heap.size = wr.heap.size + 1 := by rw [hW2]; simp
        have hcx2 : W2.cell? ⟨wr.heap.size, 0, none⟩ = some (.int .u8 (X : Int)) := by
          rw [hW2]
          exact (arr.newAt _ 5 [.int .u8 (X : Int)] wr.heap.size rfl).cell 0 _ rfl
        have HB2 := hid b2
        have HW2 := hid hW2
        have HCX2 := hid hcx2
        have HX2 := hid hx2
        clear b2 hcx2 hx2 hW2
        refine effs_op rfl rfl ?_
        go_simp
        rw [← HW2.out]
        refine effs_op rfl rfl (wp_appendB (.tmp 54) (.tmp 60) rfl B (.slice A' m' c') L [UInt8.ofNat X] rfl HO2.out wr.heap.size 0 1 rfl ?_ ?_ ?_ ?_)
        · intro j' hj'
          obtain rfl : j' = 0 := (by simpa using hj')
          exact HCX2.out.trans (by simp; omega)
        · have := HLL.out; simp; omega
        · rw [HX2.out]; omega
        intro v9 w9 ho9 hg9
        obtain ⟨A9, n9, k9, rfl⟩ := own_form ho9
        obtain ⟨hp10, hb10, a9⟩ := isP.put hB HA'.out HO'.out HB2.out hg9 ho9 hBr
        have c9 := a9.cell 0 _ rfl
        have f9 := a9.free 0
        have aq9 := arr_keep hqr HO'.out HB2.out hg9 (by decide)
        have an9 := arr_keep hnr HO'.out HB2.out hg9 (by decide)
        have q9 := aq9.cell 0 _ rfl
        have n9' := an9.cell 0 _ rfl
        have HP10 := hid hp10
        have HB10 := hid (HBR.out.trans hb10)
        have AN10 := hid (arr_setO (v := .slice A9 n9 k9) an9 (arr_apart a9 an9 (by decide)))
        have AQ10 := hid (arr_setO (v := .slice A9 n9 k9) aq9 (arr_apart a9 aq9 (by decide)))
        clear hp10 hb10 a9 ho9 hg9
        refine ⟨⟨q9, c9, n9'⟩, ?_⟩
        refine effs_op rfl rfl ?_
        go_simp
        refine effs_op rfl rfl ?_
        go_simp
        refine effs_last rfl rfl ?_
        go_simp
        clear c9 f9 aq9 an9 q9 n9'
        obtain ⟨w10, hw10⟩ : ∃ w10, w10 = w9.setCell ⟨g, 0, none⟩ (.slice A9 n9 k9) := ⟨_, rfl⟩
        rw [← hw10] at HP10 HB10 AN10 AQ10
        rw [← hw10]
        clear hw10
        go_wp2
        go_roundw
        case rel =>
          refine ⟨j, L ++ [UInt8.ofNat X], by omega, rfl, HP10.out, ?_, HB10.out, AN10.out, AQ10.out⟩
          have h := HL.out
          rw [be_succ] at h
          rw [HX.out, HZ.out]
          have e : UInt8.ofNat (n / 256 ^ j % 256) = UInt8.ofNat (n / 256 ^ j) := by
            apply UInt8.toNat.inj; simp
          rw [e, List.append_assoc]; exact h
        case measure => simp [intOf]
  · have hb2 : ¬ below ≤ (n : Int) := h1.resolve_left hb0 |> Int.not_le.2
    go_enter Tryd.func39, Tryd.ntmps39
    go_wp2
    refine wp_region_soft (fun w' => w'.cell? ⟨wb, 0, none⟩ = some (.pointer (some ⟨g, 0, none⟩)) ∧ w'.cell? ⟨g, 0, none⟩ = some (.slice A m c) ∧ w'.cell? ⟨nb, 0, none⟩ = some (.int .u64 (n : Int)) ∧ w'.cell? ⟨w.heap.size, 1, none⟩ = some (.int .u8 (f : Int))) [0, 1, 2, 3, 4, 5, 6] [7, 8, 9, 10, 11] 11 (by kernel_rfl) (by kernel_rfl) (by kernel_rfl) rfl rfl (by kernel_rfl) (fun o _ _ _ _ h => by cases o <;> exact h) ?_ ?_
    · go_simp
    refine softs_step rfl rfl (v := .pointer (some ⟨g, 0, none⟩)) (fun W hW => ?_) ?_
    · obtain ⟨s1, s2, s3, s4⟩ := hW
      go_simp
    refine softs_step rfl rfl (v := .pointer (some ⟨g, 0, none⟩)) (fun W hW => ?_) ?_
    · obtain ⟨s1, s2, s3, s4⟩ := hW
      go_simp
    refine softs_step rfl rfl (v := .pointer (some ⟨g, 0, none⟩)) (fun W hW => ?_) ?_
    · obtain ⟨s1, s2, s3, s4⟩ := hW
      go_simp
    refine softs_step rfl rfl (v := .pointer (some ⟨g, 0, none⟩)) (fun W hW => ?_) ?_
    · obtain ⟨s1, s2, s3, s4⟩ := hW
      go_simp
    refine softs_step rfl rfl (v := .slice A m c) (fun W hW => ?_) ?_
    · obtain ⟨s1, s2, s3, s4⟩ := hW
      go_simp
    refine softs_step rfl rfl (v := .pointer (some ⟨w.heap.size, 1, none⟩)) (fun W hW => ?_) ?_
    · obtain ⟨s1, s2, s3, s4⟩ := hW
      go_simp
    refine softs_step rfl rfl (v := .int .u8 (f : Int)) (fun W hW => ?_) ?_
    · obtain ⟨s1, s2, s3, s4⟩ := hW
      go_simp
    refine softs_done ?_
    refine effs_op rfl rfl ?_
    go_simp
    rw [← HW1.out]
    refine effs_op rfl rfl (wp_appendB (.tmp 36) (.tmp 39) rfl B (.slice A m c) l [UInt8.ofNat f] rfl HO1.out (w.heap.size + 1) 0 1 rfl ?_ ?_ ?_ ?_)
    · intro j hj
      obtain rfl : j = 0 := (by simpa using hj)
      exact HCX.out.trans (by simp; omega)
    · simp; omega
    · rw [HX1.out]; omega
    intro v7 w7 ho7 hg7
    obtain ⟨A7, n7, k7, rfl⟩ := own_form ho7
    obtain ⟨hp8, hb8, a7⟩ := isP.put hB HA.out HO.out HB1.out hg7 ho7 hBw
    have c7 := a7.cell 0 _ rfl
    have f7 := a7.free 0
    have aq7 := arr_keep hw HO.out HB1.out hg7 (by decide)
    have an7 := arr_keep hn HO.out HB1.out hg7 (by decide)
    have ar7 := arr_kept HR1.out (HO.out.keep HB1.out) hg7 (by decide)
    have q7 := aq7.cell 0 _ rfl
    have n7' := an7.cell 0 _ rfl
    have r7 := ar7.cell 1 _ rfl
    have HP8 := hid hp8
    have HB8 := hid hb8
    have an8 := arr_setO (v := .slice A7 n7 k7) an7 (arr_apart a7 an7 (by decide))
    have aq8 := arr_setO (v := .slice A7 n7 k7) aq7 (arr_apart a7 aq7 (by decide))
    have ar8 := arr_setO (v := .slice A7 n7 k7) ar7 (arr_apart a7 ar7 (by decide))
    clear hp8 hb8 a7 ho7 hg7
    have AN8 := hid an8
    have AQ8 := hid aq8
    have AR8 := hid ar8
    clear an8 aq8 ar8
    refine ⟨⟨q7, c7, n7', r7⟩, ?_⟩
    refine effs_op rfl rfl ?_
    go_simp
    refine effs_op rfl rfl ?_
    go_simp
    refine effs_last rfl rfl ?_
    go_simp
    clear c7 f7 aq7 an7 ar7 q7 n7' r7 cn cw cg
    obtain ⟨w8, hw8⟩ : ∃ w8, w8 = w7.setCell ⟨g, 0, none⟩ (.slice A7 n7 k7) := ⟨_, rfl⟩
    rw [← hw8] at HP8 HB8 AN8 AQ8 AR8
    rw [← hw8]
    clear hw8 HA HO HO1 HB1 HW1 HCX HX1 HR1
    have r8 := AR8.out.cell 2 _ rfl
    have l8 := AR8.out.lt
    go_wp2
    go_loopw [5] (fun i wr => ∃ k L, k ≤ s ∧ i = .int .i64 ((k : Int) - 1) ∧ isP wr B g L ∧ L ++ be n k = l ++ UInt8.ofNat f :: be n s ∧ Below B w wr ∧ arr wr nb 27 [.int .u64 (n : Int)] ∧ arr wr wb 23 [.pointer (some ⟨g, 0, none⟩)]) (fun i _ => (intOf i + 1).toNat)
    case atStart =>
      refine ⟨s, l ++ [UInt8.ofNat f], Nat.le_refl _, by simp, HP8.out, by simp, HB8.out, AN8.out, AQ8.out⟩
    case round =>
      clear HP8 HB8 AN8 AQ8 AR8 r8 l8
      obtain ⟨k, L, hk, rfl, hpr, hL, hbr, hnr, hqr⟩ := hrel
      rcases Nat.eq_zero_or_pos k with rfl | hk0
      · have hL2 : L = l ++ UInt8.ofNat f :: be n s := by simpa [be] using hL
        clear hL
        rw [hL2] at hpr
        have hk1 : ((0 : Nat) : Int) - 1 < 0 := by omega
        go_wp2
        go_ret
        exact ⟨rfl, hpr, hbr⟩
      · obtain ⟨j, rfl⟩ : ∃ j, k = j + 1 := ⟨k - 1, by omega⟩
        have ej : (((j + 1 : Nat) : Int) - 1) = (j : Int) := by omega
        rw [ej]
        have hLl : L.length + (j + 1) = l.length + 1 + s := by
          have := congrArg List.length hL
          simp [be_len] at this; omega
        have HL := hid hL
        have HLL := hid hLl
        obtain ⟨_, A', m', c', ha', ho'⟩ := hpr
        have cn' := hnr.cell 0 _ rfl
        have cw' := hqr.cell 0 _ rfl
        have cg' := ha'.cell 0 _ rfl
        have ln' := hnr.lt
        have lw' := hqr.lt
        have lg' := ha'.lt
        have HA' := hid ha'
        have HO' := hid ho'
        have HBR := hid hbr
        have hBr : B ≤ wr.heap.size := Nat.le_trans hBw hbr.size
        clear ha' ho' hL hLl hbr
        go_wp2
        refine wp_region_soft (fun w' => w'.cell? ⟨wb, 0, none⟩ = some (.pointer (some ⟨g, 0, none⟩)) ∧ w'.cell? ⟨g, 0, none⟩ = some (.slice A' m' c') ∧ w'.cell? ⟨nb, 0, none⟩ = some (.int .u64 (n : Int))) [0, 1, 2, 3, 4, 5, 6, 7, 8, 9] [10, 11, 12, 13, 14] 14 (by kernel_rfl) (by kernel_rfl) (by kernel_rfl) rfl rfl (by kernel_rfl) (fun o _ _ _ _ h => by cases o <;> exact h) ?_ ?_
        · go_simp
        refine softs_step rfl rfl (v := .pointer (some ⟨g, 0, none⟩)) (fun W hW => ?_) ?_
        · obtain ⟨s1, s2, s3⟩ := hW
          go_simp
        refine softs_step rfl rfl (v := .pointer (some ⟨g, 0, none⟩)) (fun W hW => ?_) ?_
        · obtain ⟨s1, s2, s3⟩ := hW
          go_simp
        refine softs_step rfl rfl (v := .pointer (some ⟨g, 0, none⟩)) (fun W hW => ?_) ?_
        · obtain ⟨s1, s2, s3⟩ := hW
          go_simp
        refine softs_step rfl rfl (v := .pointer (some ⟨g, 0, none⟩)) (fun W hW => ?_) ?_
        · obtain ⟨s1, s2, s3⟩ := hW
          go_simp
        refine softs_step rfl rfl (v := .slice A' m' c') (fun W hW => ?_) ?_
        · obtain ⟨s1, s2, s3⟩ := hW
          go_simp
        refine softs_step rfl rfl (v := .int .u64 (n : Int)) (fun W hW => ?_) ?_
        · obtain ⟨s1, s2, s3⟩ := hW
          go_simp
        refine softs_step rfl rfl (v := .int .i64 (j : Int)) (fun W hW => ?_) ?_
        · obtain ⟨s1, s2, s3⟩ := hW
          go_simp
        refine softs_step rfl rfl (v := .int .i64 (8 * (j : Int))) (fun W hW => ?_) ?_
        · obtain ⟨s1, s2, s3⟩ := hW
          go_simp
          have e8 : IntKind.i64.wrap (8 * (j : Int)) = 8 * (j : Int) := by rw [IntKind.wrap_i64]; omega
          rw [e8]
        refine softs_step rfl rfl (v := .int .u64 ((n / 256 ^ j : Nat) : Int)) (fun W hW => ?_) ?_
        · obtain ⟨s1, s2, s3⟩ := hW
          go_simp
          have e1 : (8 * (j : Int)).toNat = 8 * j := by omega
          have e2 : ((2 ^ (8 * j) : Nat) : Int) = ((256 ^ j : Nat) : Int) := by rw [Nat.pow_mul]
          push_cast at e2
          rw [e1, e2]
        obtain ⟨Z, hZ⟩ : ∃ Z, Z = n / 256 ^ j := ⟨_, rfl⟩
        have HZ := hid hZ
        rw [← hZ]
        clear hZ
        refine softs_step rfl rfl (v := .int .u8 ((Z % 256 : Nat) : Int)) (fun W hW => ?_) ?_
        · obtain ⟨s1, s2, s3⟩ := hW
          go_simp
          rw [IntKind.wrap_u8]
        obtain ⟨X, hX⟩ : ∃ X, X = Z % 256 := ⟨_, rfl⟩
        have hXb : X < 256 := by omega
        have HX := hid hX
        rw [← hX]
        clear hX
        refine softs_done ?_
        obtain ⟨W2, hW2⟩ : ∃ W2, W2 = (wr.alloc (.cells #[.int .u8 (X : Int)] 5)).drew := ⟨_, rfl⟩
        have b2 : Below wr.heap.size wr W2 := by rw [hW2]; exact ((Below.refl _ _).alloc (Nat.le_refl _) _).drew
        have HO2 := hid (HO'.out.keep b2)
        have hx2 : W2.heap.size = wr.heap.size + 1 := by rw [hW2]; simp
        have hcx2 : W2.cell? ⟨wr.heap.size, 0, none⟩ = some (.int .u8 (X : Int)) := by
          rw [hW2]
          exact (arr.newAt _ 5 [.int .u8 (X : Int)] wr.heap.size rfl).cell 0 _ rfl
        have HB2 := hid b2
        have HW2 := hid hW2
        have HCX2 := hid hcx2
        have HX2 := hid hx2
        clear b2 hcx2 hx2 hW2
        refine effs_op rfl rfl ?_
        go_simp
        rw [← HW2.out]
        refine effs_op rfl rfl (wp_appendB (.tmp 54) (.tmp 60) rfl B (.slice A' m' c') L [UInt8.ofNat X] rfl HO2.out wr.heap.size 0 1 rfl ?_ ?_ ?_ ?_)
        · intro j' hj'
          obtain rfl : j' = 0 := (by simpa using hj')
          exact HCX2.out.trans (by simp; omega)
        · have := HLL.out; simp; omega
        · rw [HX2.out]; omega
        intro v9 w9 ho9 hg9
        obtain ⟨A9, n9, k9, rfl⟩ := own_form ho9
        obtain ⟨hp10, hb10, a9⟩ := isP.put hB HA'.out HO'.out HB2.out hg9 ho9 hBr
        have c9 := a9.cell 0 _ rfl
        have f9 := a9.free 0
        have aq9 := arr_keep hqr HO'.out HB2.out hg9 (by decide)
        have an9 := arr_keep hnr HO'.out HB2.out hg9 (by decide)
        have q9 := aq9.cell 0 _ rfl
        have n9' := an9.cell 0 _ rfl
        have HP10 := hid hp10
        have HB10 := hid (HBR.out.trans hb10)
        have AN10 := hid (arr_setO (v := .slice A9 n9 k9) an9 (arr_apart a9 an9 (by decide)))
        have AQ10 := hid (arr_setO (v := .slice A9 n9 k9) aq9 (arr_apart a9 aq9 (by decide)))
        clear hp10 hb10 a9 ho9 hg9
        refine ⟨⟨q9, c9, n9'⟩, ?_⟩
        refine effs_op rfl rfl ?_
        go_simp
        refine effs_op rfl rfl ?_
        go_simp
        refine effs_last rfl rfl ?_
        go_simp
        clear c9 f9 aq9 an9 q9 n9'
        obtain ⟨w10, hw10⟩ : ∃ w10, w10 = w9.setCell ⟨g, 0, none⟩ (.slice A9 n9 k9) := ⟨_, rfl⟩
        rw [← hw10] at HP10 HB10 AN10 AQ10
        rw [← hw10]
        clear hw10
        go_wp2
        go_roundw
        case rel =>
          refine ⟨j, L ++ [UInt8.ofNat X], by omega, rfl, HP10.out, ?_, HB10.out, AN10.out, AQ10.out⟩
          have h := HL.out
          rw [be_succ] at h
          rw [HX.out, HZ.out]
          have e : UInt8.ofNat (n / 256 ^ j % 256) = UInt8.ofNat (n / 256 ^ j) := by
            apply UInt8.toNat.inj; simp
          rw [e, List.append_assoc]; exact h
        case measure => simp [intOf]
end Go.Proofs.YtcfohdkdppiekaaDoor
