/- The stream's byte: contract. -/
import Derived.Test.YtcfohdkdppiekaaWHashD
import Derived.Test.YtcfohdkdppiekaaSpecStream
import Derived.Test.YtcfohdkdppiekaaSoft
import Derived.Test.YtcfohdkdppiekaaFree
namespace Go.Proofs.Ytcfohdkdppiekaa
open Go.RowKit Go.Proofs
/-- the stream of seed s, k bytes of which were drawn -/
def isS (w : World) (g : Nat) (s : List UInt8) (k : Nat) : Prop := ∃ (blk : List UInt8) (n : Nat), n < 18446744073709551616 ∧ arr w g 163 [.string ⟨s.toArray⟩, .int .u64 (k : Int), .string ⟨blk.toArray⟩, .int .u64 (n : Int)] ∧ (blk = [] ∨ blk = sblk s n)
theorem isS.keep {w w' : World} {g k : Nat} {s : List UInt8} (h : isS w g s k) (hb : Below w.heap.size w w') : isS w' g s k := by
  obtain ⟨blk, n, hn, ha, hx⟩ := h
  exact ⟨blk, n, hn, ha.keep hb, hx⟩
theorem isS.other {w w' : World} {g g' k : Nat} {s : List UInt8} (h : isS w g s k) (hg : w.grownBy w' (some g')) (hne : g ≠ g') : isS w' g s k := by
  obtain ⟨blk, n, hn, ha, hx⟩ := h
  exact ⟨blk, n, hn, ha.kept hg hne, hx⟩
theorem isS.lt {w : World} {g k : Nat} {s : List UInt8} (h : isS w g s k) : g < w.heap.size := by
  obtain ⟨blk, n, hn, ha, hx⟩ := h
  exact ha.lt
theorem grown_then {a w w' : World} {g : Option Nat} (h : a.grownBy w g) (hb : Below w.heap.size w w') : a.grownBy w' g :=
  ⟨hb.os.trans h.os, hb.tape.trans h.tape, hb.output.trans h.output, Nat.le_trans h.size hb.size, fun k hk hne => (hb.block k (Nat.lt_of_lt_of_le hk h.size)).trans (h.block k hk hne)⟩
set_option maxRecDepth 100000 in
set_option maxHeartbeats 2000000 in
theorem next_any (g : Nat) (s : List UInt8) (hs : s.length = 32) (k : Nat) (hk : k < 1000000000000) (w : World) (h : isS w g s k) :
    Calls Try.prog 157 #[.pointer (some ⟨g, 0, none⟩)] w fun e w' => e = .returned (.int .u8 ((sb s k).toNat : Int)) ∧ isS w' g s (k + 1) ∧ w.grownBy w' (some g) := by
  obtain ⟨blk, n, hn, ha, hx⟩ := h
  have c0 := ha.cell 0 _ rfl
  have c1 := ha.cell 1 _ rfl
  have c2 := ha.cell 2 _ rfl
  have c3 := ha.cell 3 _ rfl
  have lg := ha.lt
  have HA := hid ha
  have HS := hid hs
  obtain ⟨q, hq⟩ : ∃ q, q = k / 32 := ⟨_, rfl⟩
  have hq1 : (k : Int) / 32 = (q : Int) := by omega
  have HQ := hid hq
  clear ha hs hq
  by_cases hA : blk = sblk s q ∧ n = q
  · obtain ⟨rfl, rfl⟩ := hA
    have h0 : (sblk s n).isEmpty = false := by
      have := sblk_len s n
      cases hh : sblk s n with
      | nil => rw [hh] at this; simp at this
      | cons _ _ => rfl
    clear hx
    go_enter Try.func157, Try.ntmps157
    go_wp2_with fail
    obtain ⟨Bk, hBk⟩ : ∃ Bk, Bk = sblk s n := ⟨_, rfl⟩
    have HBL := hid (show Bk.length = 32 by rw [hBk, sblk_len])
    rw [← hBk] at c2 HA ⊢
    have HBK := hid hBk
    have GW : Hid (w.grownBy w (some g)) := grown_below (Below.refl _ _)
    clear hBk h0
    obtain ⟨m, hm⟩ : ∃ m, m = k % 32 := ⟨_, rfl⟩
    have hm1 : (k : Int) % 32 = (m : Int) := by omega
    have hm2 : m < Bk.length := by have := HBL.out; omega
    have hm3 : (m : Int) < (Bk.length : Int) := by omega
    have HM := hid hm
    clear hm
    refine wp_region_later_lit (by kernel_rfl) (by kernel_rfl) ?_
    repeat (go_big_quiet_step (fail))
    refine wpQuiet_nil fun w8 hw8 => ?_
    obtain ⟨u8, rfl⟩ := hw8
    have hb8 := u8.below
    obtain ⟨w8, hw8⟩ : ∃ w8, w8 = later w u8 := ⟨_, rfl⟩
    rw [show u8.w = w8 from hw8.symm] at hb8
    rw [← hw8]
    have A8 := HA.out.keep hb8
    have G8 := hid (grown_then GW.out hb8)
    have d1 := A8.cell 1 _ rfl
    have l8 := A8.lt
    have f8 := A8.free 1
    have HA8 := hid A8
    obtain ⟨y, hy⟩ : ∃ y : UInt8, y = (⟨Bk.toArray⟩ : ByteArray)[m]'(by exact hm2) := ⟨_, rfl⟩
    rw [← hy]
    have HY : Hid (y = sb s k) := by
      rw [hy]
      unfold sb
      rw [← HQ.out, ← HBK.out, ← HM.out, List.getD_eq_getElem?_getD, List.getElem?_eq_getElem hm2]
      rfl
    clear hw8 hb8 A8 c0 c1 c2 c3 lg hy hm1 hm2 hm3 HA GW
    go_wp2
    go_ret
    have A9 := HA8.out.set 1 (.int .u64 ((k : Int) + 1))
    refine ⟨by have h := HY.out; subst h; rfl, ⟨Bk, n, ?_, A9, Or.inr HBK.out⟩, grown_set G8.out _ _⟩
    omega
  · have hB : blk.isEmpty = true ∨ (blk.isEmpty = false ∧ ((q : Int) == (n : Int)) = false ∧ ((q : Int) != (n : Int)) = true) := by
      cases hb : blk with
      | nil => left; rfl
      | cons x l =>
        right
        have hne : ¬ (q : Int) = (n : Int) := by
          intro e
          have e2 : n = q := by omega
          rcases hx with hx | hx
          · rw [hx] at hb; cases hb
          · exact hA ⟨by rw [hx, e2], e2⟩
        exact ⟨rfl, by simpa using hne, by simpa using hne⟩
    clear hx hA
    rcases hB with h0 | ⟨h0, h1, h2⟩
    all_goals
      go_enter Try.func157, Try.ntmps157
      go_wp2_with fail
      refine wp_region_soft (fun w' => w'.cell? ⟨g, 0, none⟩ = some (.string ⟨s.toArray⟩)) [0, 1, 2, 3, 4, 5, 6, 10] [7, 8, 9, 11, 12, 13, 14, 15, 16] 16 (by kernel_rfl) (by kernel_rfl) (by kernel_rfl) rfl rfl (by kernel_rfl) (fun o _ _ _ _ h => by cases o <;> exact h) ?_ ?_
      · exact c0
      refine softs_step rfl rfl (v := .pointer (some ⟨g, 0, none⟩)) (fun W hW => (by go_simp)) ?_
      refine softs_step rfl rfl (v := .pointer (some ⟨g, 0, none⟩)) (fun W hW => (by go_simp)) ?_
      refine softs_step rfl rfl (v := .pointer (some ⟨g, 0, none⟩)) (fun W hW => (by go_simp)) ?_
      refine softs_step rfl rfl (v := .pointer (some ⟨g, 0, none⟩)) (fun W hW => (by go_simp)) ?_
      refine softs_step rfl rfl (v := .pointer (some ⟨g, 0, none⟩)) (fun W hW => (by go_simp)) ?_
      refine softs_step rfl rfl (v := .string ⟨s.toArray⟩) (fun W hW => (by go_simp)) ?_
      refine softs_step rfl rfl (v := .int .u64 (q : Int)) (fun W hW => (by go_simp)) ?_
      refine softs_step rfl rfl (v := .int .u64 (q : Int)) (fun W hW => (by go_simp)) ?_
      refine softs_done ?_
      have GD : Hid (w.grownBy w.drew (some g)) := grown_below (Below.refl _ _).drew
      have AD : Hid (arr w.drew g 163 [.string ⟨s.toArray⟩, .int .u64 (k : Int), .string ⟨blk.toArray⟩, .int .u64 (n : Int)]) := HA.out.drew
      refine effs_op rfl rfl ?_
      go_simp
      refine (num_any (q : Int) (by omega) (by omega) _).mono ?_
      rintro e w1 ⟨rfl, hb1⟩
      rw [Int.toNat_natCast]
      have A1 := hid (AD.out.keep hb1)
      have G1 := hid (grown_then GD.out hb1)
      clear hb1 AD GD
      refine ⟨A1.out.cell 0 _ rfl, ?_⟩
      refine effs_op rfl rfl ?_
      go_simp
      have hal : Below w1.heap.size w1 (w1.alloc (.cells #[.string ⟨s.toArray⟩, .string ⟨(b8 q).toArray⟩] 9)) := (Below.refl _ _).alloc (Nat.le_refl _) _
      refine ⟨(A1.out.keep hal).cell 0 _ rfl, ?_⟩
      have A2 := hid (A1.out.keep hal)
      have G2 := hid (grown_then G1.out hal)
      clear hal A1 G1
      refine effs_op rfl rfl ?_
      go_simp
      refine (hash_any tStream [s, b8 q] _ _ (strsAt.lit' w1 [s, b8 q] (by simp [b8_len]; have := HS.out; omega) (by simp) 9) (by decide) (by simp [fparts, b8_len]; have := HS.out; omega) (by simp [b8_len]; have := HS.out; omega)).mono ?_
      rintro e w3 ⟨rfl, hb3⟩
      have A3 := hid (A2.out.keep hb3)
      have G3 := hid (grown_then G2.out hb3)
      clear hb3 A2 G2
      rw [show hsh tStream [s, b8 q] = sblk s q from rfl]
      obtain ⟨Bk, hBk⟩ : ∃ Bk, Bk = sblk s q := ⟨_, rfl⟩
      have HBL := hid (show Bk.length = 32 by rw [hBk, sblk_len])
      rw [← hBk]
      have HBK := hid hBk
      clear hBk
      have d0 := A3.out.cell 0 _ rfl
      have d2 := A3.out.cell 2 _ rfl
      have d3 := A3.out.cell 3 _ rfl
      have l3 := A3.out.lt
      have f2 := A3.out.free 2
      have f3 := A3.out.free 3
      refine ⟨d0, ?_⟩
      refine effs_op rfl rfl ?_
      go_simp
      refine effs_op rfl rfl ?_
      go_simp
      refine effs_op rfl rfl ?_
      go_simp
      refine effs_op rfl rfl ?_
      go_simp
      refine effs_op rfl rfl ?_
      go_simp
      refine effs_last rfl rfl ?_
      go_simp
      obtain ⟨w5, hw5⟩ : ∃ w5, w5 = (w3.setCell ⟨g, 2, none⟩ (.string ⟨Bk.toArray⟩)).setCell ⟨g, 3, none⟩ (.int .u64 (q : Int)) := ⟨_, rfl⟩
      have A5 : Hid (arr w5 g 163 [.string ⟨s.toArray⟩, .int .u64 (k : Int), .string ⟨Bk.toArray⟩, .int .u64 (q : Int)]) := by
        rw [hw5]; exact (A3.out.set 2 _).set 3 _
      have G5 : Hid (w.grownBy w5 (some g)) := by rw [hw5]; exact grown_set (grown_set G3.out _ _) _ _
      rw [← hw5]
      clear hw5 d0 d2 d3 f2 f3 l3 c0 c1 c2 c3 A3 G3 lg HA h0 hn
      have c0 := A5.out.cell 0 _ rfl
      have c1 := A5.out.cell 1 _ rfl
      have c2 := A5.out.cell 2 _ rfl
      have c3 := A5.out.cell 3 _ rfl
      have lg := A5.out.lt
      go_wp2_with fail
      obtain ⟨m, hm⟩ : ∃ m, m = k % 32 := ⟨_, rfl⟩
      have hm1 : (k : Int) % 32 = (m : Int) := by omega
      have hm2 : m < Bk.length := by have := HBL.out; omega
      have hm3 : (m : Int) < (Bk.length : Int) := by omega
      have HM := hid hm
      clear hm
      refine wp_region_later_lit (by kernel_rfl) (by kernel_rfl) ?_
      repeat (go_big_quiet_step (fail))
      refine wpQuiet_nil fun w8 hw8 => ?_
      obtain ⟨u8, rfl⟩ := hw8
      have hb8 := u8.below
      obtain ⟨w8, hw8⟩ : ∃ w8, w8 = later w5 u8 := ⟨_, rfl⟩
      rw [show u8.w = w8 from hw8.symm] at hb8
      rw [← hw8]
      have A8 := A5.out.keep hb8
      have G8 := hid (grown_then G5.out hb8)
      have d1 := A8.cell 1 _ rfl
      have l8 := A8.lt
      have f8 := A8.free 1
      have HA8 := hid A8
      obtain ⟨y, hy⟩ : ∃ y : UInt8, y = (⟨Bk.toArray⟩ : ByteArray)[m]'(by exact hm2) := ⟨_, rfl⟩
      rw [← hy]
      have HY : Hid (y = sb s k) := by
        rw [hy]
        unfold sb
        rw [← HQ.out, ← HBK.out, ← HM.out, List.getD_eq_getElem?_getD, List.getElem?_eq_getElem hm2]
        rfl
      clear hw8 hb8 A8 c0 c1 c2 c3 lg hy hm1 hm2 hm3 A5 G5
      go_wp2
      go_ret
      have A9 := HA8.out.set 1 (.int .u64 ((k : Int) + 1))
      refine ⟨by have h := HY.out; subst h; rfl, ⟨Bk, q, ?_, A9, Or.inr HBK.out⟩, grown_set G8.out _ _⟩
      have := HQ.out
      omega
end Go.Proofs.Ytcfohdkdppiekaa
