/- coin's Seed: its rows, its closure, itself: contracts. -/
import Derived.Test.YtcfohdkdppiekaaSched
import Derived.Test.YtcfohdkdppiekaaRowOps
import Derived.Test.YtcfohdkdppiekaaAppS
import Derived.Test.YtcfohdkdppiekaaWNum
import Derived.Test.YtcfohdkdppiekaaWHashD
import Derived.Laws.EntriesVeiled
namespace Go.Proofs.Ytcfohdkdppiekaa
open Go Go.Proofs Go.RowKit
/-- a cell that holds a list of texts of the call's own -/
structure isL (w : World) (D base : Nat) (L : List (List UInt8)) : Prop where
  ex : ∃ v, arr w D 26 [v] ∧ ownS w base v L
theorem isL.keep {w w' : World} {D base : Nat} {L : List (List UInt8)} (h : isL w D base L) (hb : Below w.heap.size w w') : isL w' D base L := by
  obtain ⟨v, ha, ho⟩ := h
  exact ⟨v, ha.keep hb, ho.keep hb⟩
set_option maxRecDepth 100000 in
set_option maxHeartbeats 1000000 in
theorem seed1_any (x : Nat) (hx : x < 18446744073709551616) (D base B : Nat) (L : List (List UInt8)) (hL : L.length ≤ 1000) (w : World) (h : isL w D base L) (hB : B ≤ base) (hD : B ≤ D) (hBw : B ≤ w.heap.size) (hbw : base ≤ w.heap.size) :
    Calls Try.prog 147 #[.int .u64 (x : Int), .pointer (some ⟨D, 0, none⟩)] w fun e w' => e = .returned (.tuple #[]) ∧ isL w' D base (L ++ [b8 x]) ∧ Below B w w' ∧ w.heap.size ≤ w'.heap.size := by
  obtain ⟨v, ha, ho⟩ := h
  have HA := hid ha
  have HO := hid ho
  have cv := ha.cell 0 _ rfl
  have lv := ha.lt
  clear ha ho
  go_enter Try.func147, Try.ntmps147
  go_wp2_with fail
  refine wp_region_sched (fun W => W.cell? ⟨D, 0, none⟩ = some v) [(true, 0), (true, 1), (false, 2), (false, 3)] 4 rfl (by kernel_rfl) (by kernel_rfl) (by kernel_rfl) (by decide) rfl (by kernel_rfl) (fun o _ _ _ _ h => by cases o <;> exact h) cv ?_
  have A0 := hid (HA.out.keep (Below.refl _ _).drew)
  have O0 := hid (HO.out.keep (Below.refl _ _).drew)
  clear cv
  refine sched_soft rfl (by kernel_rfl) (v := v) (fun W hW => (by go_simp)) ?_
  refine sched_soft rfl (by kernel_rfl) (v := .int .u64 (x : Int)) (fun W _ => (by go_simp)) ?_
  refine sched_op rfl (by kernel_rfl) ?_
  go_simp
  refine (num_nat x (by omega) _).mono ?_
  rintro e w1 ⟨rfl, b1⟩
  have A1 := hid (A0.out.keep b1)
  have O1 := hid (O0.out.keep b1)
  have B1 : Hid (Below w.heap.size w w1) := hid ((Below.refl _ _).drew.trans b1)
  clear b1 A0 O0
  refine ⟨A1.out.cell 0 _ rfl, ?_⟩
  refine sched_op rfl (by kernel_rfl) ?_
  go_simp
  have hal : Below w1.heap.size w1 (w1.alloc (.cells #[.string ⟨(b8 x).toArray⟩] 9)) := (Below.refl _ _).alloc (Nat.le_refl _) _
  have A2 := hid (A1.out.keep hal)
  have O2 := hid (O1.out.keep hal)
  refine ⟨A2.out.cell 0 _ rfl, ?_⟩
  refine sched_done ?_
  have C2 : Hid ((w1.alloc (.cells #[.string ⟨(b8 x).toArray⟩] 9)).cell? ⟨w1.heap.size, 0 + 0, none⟩ = some (.string ⟨(b8 x).toArray⟩)) := hid ((arr.new w1 9 [.string ⟨(b8 x).toArray⟩]).cell 0 _ rfl)
  have S1 := hid B1.out.size
  have HAL := hid hal
  clear A1 O1 hal
  go_wp2_with (at_builtin; go_must (refine ownS_append rfl _ _ rfl base v L [b8 x] rfl O2.out w1.heap.size 0 1 rfl (by intro j hj; obtain rfl : j = 0 := (by simpa using hj); exact C2.out) (by simp; omega) (by have := S1.out; simp; omega) ?_); intro v7 w7 ho7 hg7; obtain ⟨aa, cc, rfl⟩ := row_form ho7; have A7 := hid (arr_row A2.out O2.out hg7 (by decide)); have ho8 : ownS w7 base (.slice aa (L.length + 1) cc) (L ++ [b8 x]) := (by have hq := ho7; rwa [show (L ++ [b8 x]).length = L.length + 1 from by simp] at hq); have O7 := hid ho8; have c7 := A7.out.cell 0 _ rfl; have f7 := A7.out.free 0; have l7 := A7.out.lt; have G7 := hid hg7; clear ho7 hg7 ho8)
  go_end0
  refine ⟨rfl, ⟨_, A7.out.set 0 _, ?_⟩, ?_, ?_⟩
  · exact row_set O7.out A7.out (by decide) 0 _
  · refine Below.setCell ?_ hD _
    exact ownS.below O2.out ((B1.out.mono hBw).trans ((HAL.out.mono (Nat.le_trans hBw S1.out)))) G7.out (by simp; have := S1.out; omega) hB
  · have h1 := S1.out
    have h2 := G7.out.size
    simp at h2 ⊢; omega
def tCoin : List UInt8 := [99, 111, 105, 110]
def coinL (a b c : List UInt8) (x y z : Nat) : Nat → List (List UInt8)
  | 0 => [a, b, c]
  | 1 => [a, b, c] ++ [b8 x]
  | 2 => ([a, b, c] ++ [b8 x]) ++ [b8 y]
  | _ => (([a, b, c] ++ [b8 x]) ++ [b8 y]) ++ [b8 z]
def nums3 (x y z : Nat) : Value := .agg #[.int .u64 (x : Int), .int .u64 (y : Int), .int .u64 (z : Int)]
set_option maxRecDepth 100000 in
set_option maxHeartbeats 2000000 in
theorem cseed_any (a b c : List UInt8) (ha : a.length ≤ 1000000000) (hb : b.length ≤ 1000000000) (hc : c.length ≤ 1000000000) (x y z : Nat) (hx : x < 18446744073709551616) (hy : y < 18446744073709551616) (hz : z < 18446744073709551616) (w : World) :
    Calls Try.prog 105 #[.string ⟨a.toArray⟩, .string ⟨b.toArray⟩, .string ⟨c.toArray⟩, nums3 x y z] w fun e w' => e = .returned (.string ⟨(hsh tCoin [a, b, c, b8 x, b8 y, b8 z]).toArray⟩) ∧ Below w.heap.size w w' := by
  unfold nums3
  go_enter Try.func105, Try.ntmps105
  go_wp2_with fail
  obtain ⟨F, hFe⟩ : ∃ F, F = w.heap.size + 1 := ⟨_, rfl⟩
  obtain ⟨D, hDe⟩ : ∃ D, D = w.heap.size + 1 + 1 := ⟨_, rfl⟩
  obtain ⟨w2, hw2⟩ : ∃ w2, w2 = (((w.alloc (.cells #[.int .u64 (x : Int), .int .u64 (y : Int), .int .u64 (z : Int)] 123)).alloc (.cells #[.string ⟨a.toArray⟩, .string ⟨b.toArray⟩, .string ⟨c.toArray⟩] 9)).alloc (.cells #[.slice (some ⟨w.heap.size + 1, 0, none⟩) 3 3] 26)) := ⟨_, rfl⟩
  rw [← hw2, ← hDe]
  have B2 : Hid (Below w.heap.size w w2) := hid (by rw [hw2]; exact (((Below.refl _ _).alloc (Nat.le_refl _) _).alloc (by simp) _).alloc (by simp; omega) _)
  have S2 : Hid (isL w2 D F (coinL a b c x y z 0)) := hid (by
    have e : D = ((w.alloc (.cells #[.int .u64 (x : Int), .int .u64 (y : Int), .int .u64 (z : Int)] 123)).alloc (.cells #[.string ⟨a.toArray⟩, .string ⟨b.toArray⟩, .string ⟨c.toArray⟩] 9)).heap.size := by rw [hDe]; simp
    have eF : F = (w.alloc (.cells #[.int .u64 (x : Int), .int .u64 (y : Int), .int .u64 (z : Int)] 123)).heap.size := by rw [hFe]; simp
    rw [hw2]
    refine ⟨.slice (some ⟨w.heap.size + 1, 0, none⟩) 3 3, ?_, ?_⟩
    · rw [e]; exact arr.new _ _ _
    · refine ownS.alloc ?_ _
      have h := World.ownsRow_lit (base := F) (e := 9) (size := 1) (w.alloc (.cells #[.int .u64 (x : Int), .int .u64 (y : Int), .int .u64 (z : Int)] 123)) #[.string ⟨a.toArray⟩, .string ⟨b.toArray⟩, .string ⟨c.toArray⟩] 3 (by rw [eF]; exact Nat.le_refl _) (by decide) rfl
      rw [← eF] at h
      rw [← hFe]
      exact h)
  have L2 : Hid (F ≤ w2.heap.size) := hid (by rw [hw2, hFe]; simp)
  have hF : w.heap.size ≤ F := by omega
  have hD : w.heap.size ≤ D := by omega
  clear hw2 hFe hDe
  go_loopw [19] (fun i wr => ∃ k : Nat, k ≤ 3 ∧ i = .int .i64 k ∧ isL wr D F (coinL a b c x y z k) ∧ Below w.heap.size w wr ∧ F ≤ wr.heap.size) (fun i _ => 3 - (intOf i).toNat)
  case atStart => exact ⟨0, by omega, rfl, S2.out, B2.out, L2.out⟩
  case round =>
    clear S2 B2 L2
    obtain ⟨k, hk, rfl, hst, hbw, hl⟩ := hrel
    have st := hid hst
    have bw := hid hbw
    have hW := hbw.size
    have hFw := hl
    clear hst hbw
    obtain rfl | rfl | rfl | rfl : k = 0 ∨ k = 1 ∨ k = 2 ∨ k = 3 := by omega
    · have hix : ∀ W : World, (Instr.index 123 (.agg #[.int .u64 (x : Int), .int .u64 (y : Int), .int .u64 (z : Int)]) (.int .i64 0)).run Try.prog W = .ok (.int .u64 (x : Int)) W := fun W => run_index_agg W _ 32 3 _ 0 _ Try.underlying123 (by kernel_rfl) (by kernel_rfl) (by decide) rfl
      go_wp2_with fail
      refine (seed1_any x hx D F w.heap.size _ (by simp [coinL]) wr st.out hF hD hW hFw).mono ?_
      rintro e w3 ⟨rfl, hs3, b3, l3⟩
      have S3 := hid hs3
      have B3 := hid (bw.out.trans b3)
      have L3 := hid (Nat.le_trans hl l3)
      clear hs3 b3 l3
      go_wp2
      go_roundw
      case rel => exact ⟨1, by omega, rfl, S3.out, B3.out, L3.out⟩
      case measure => simp [intOf]
    · have hix : ∀ W : World, (Instr.index 123 (.agg #[.int .u64 (x : Int), .int .u64 (y : Int), .int .u64 (z : Int)]) (.int .i64 1)).run Try.prog W = .ok (.int .u64 (y : Int)) W := fun W => run_index_agg W _ 32 3 _ 1 _ Try.underlying123 (by kernel_rfl) (by kernel_rfl) (by decide) rfl
      go_wp2_with fail
      refine (seed1_any y hy D F w.heap.size _ (by simp [coinL]) wr st.out hF hD hW hFw).mono ?_
      rintro e w3 ⟨rfl, hs3, b3, l3⟩
      have S3 := hid hs3
      have B3 := hid (bw.out.trans b3)
      have L3 := hid (Nat.le_trans hl l3)
      clear hs3 b3 l3
      go_wp2
      go_roundw
      case rel => exact ⟨2, by omega, rfl, S3.out, B3.out, L3.out⟩
      case measure => simp [intOf]
    · have hix : ∀ W : World, (Instr.index 123 (.agg #[.int .u64 (x : Int), .int .u64 (y : Int), .int .u64 (z : Int)]) (.int .i64 2)).run Try.prog W = .ok (.int .u64 (z : Int)) W := fun W => run_index_agg W _ 32 3 _ 2 _ Try.underlying123 (by kernel_rfl) (by kernel_rfl) (by decide) rfl
      go_wp2_with fail
      refine (seed1_any z hz D F w.heap.size _ (by simp [coinL]) wr st.out hF hD hW hFw).mono ?_
      rintro e w3 ⟨rfl, hs3, b3, l3⟩
      have S3 := hid hs3
      have B3 := hid (bw.out.trans b3)
      have L3 := hid (Nat.le_trans hl l3)
      clear hs3 b3 l3
      go_wp2
      go_roundw
      case rel => exact ⟨3, by omega, rfl, S3.out, B3.out, L3.out⟩
      case measure => simp [intOf]
    · obtain ⟨v, hv, ho⟩ := st.out
      have ST := hid (ho.strs (fun s hs => by
        simp [coinL] at hs
        rcases hs with rfl | rfl | rfl | rfl | rfl | rfl <;> first | omega | (simp [b8_len])))
      have cv := hv.cell 0 _ rfl
      have lv := hv.lt
      clear hv ho st
      go_wp2_with fail
      refine (hash_any tCoin (coinL a b c x y z 3) _ _ ST.out (by decide) (by simp [coinL, fparts, b8_len]; omega) (by
        intro s hs
        simp [coinL] at hs
        rcases hs with rfl | rfl | rfl | rfl | rfl | rfl <;> first | omega | (simp [b8_len]))).mono ?_
      rintro e w5 ⟨rfl, b5⟩
      have B5 := hid (below_all bw.out b5)
      clear b5
      go_wp2
      go_ret
      exact ⟨rfl, B5.out⟩
end Go.Proofs.Ytcfohdkdppiekaa
