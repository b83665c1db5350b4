/- Noughts of eight bytes; coin's Coins; law19's refused and nums: contracts. -/
import Derived.Test.YtcfohdkdppiekaaWStreamOps
import Derived.BigQuiet
namespace Go.Proofs.Ytcfohdkdppiekaa
open Go Go.Proofs Go.RowKit
theorem info_u64 : (Try.prog.info? 32).map (fun i => (i.zero, i.size, i.bytes)) = some (some (.int .u64 0), 1, 8) := by kernel_rfl
theorem row_arr {w : World} {base g n : Nat} {E : TypeId} {xs : List Value} (h : w.ownsRow base E 1 (.slice (some ⟨g, 0, none⟩) n n) n xs) : arr w g E xs ∧ base ≤ g := by
  rcases h.2 with ⟨h', _⟩ | ⟨g', cap, cur, h', hb, hc, _, _, hs, ht⟩
  · cases h'
  · injection h' with h1 h2 h3
    injection h1 with h1; injection h1 with h1
    subst h1
    have e : cur.toList = xs := by
      rw [← ht, List.take_of_length_le]
      rw [Array.length_toList, hs]; omega
    refine ⟨?_, hb⟩
    unfold arr
    rw [← e]
    exact hc
theorem wpList_zerosU {ops : Array Oper} {rest : List Oper} {o : Oper} {a : Act} {w : World} {Q : Exit → Act → World → Prop} (hgd : o.guard = none) (x y : Operand) (ho : o.op = .makeSlice 72 x y) (n : Nat) (hx : a.eval x = .int .i64 (n : Int)) (hy : a.eval y = .int .i64 (n : Int))
    (hn : n ≤ 1000000) (h : ∀ w', arr w' w.heap.size 32 (List.replicate n (.int .u64 0)) → Below w.heap.size w w' → w.heap.size < w'.heap.size → wpList Try.prog ops Q rest (a.put o.dst (.slice (some ⟨w.heap.size, 0, none⟩) n n)) w') : wpList Try.prog ops Q (o :: rest) a w := by
  obtain ⟨i0, hi, hz0, hz1, hz2⟩ := info_parts info_u64
  obtain ⟨w', hrun, r1, r2⟩ := run_make_full (P := Try.prog) w w.heap.size 72 32 i0 (.int .u64 0) 1 Try.underlying72 hi hz0 hz1 .i64 .i64 n (by rw [hz2]; omega) (by unfold maxLen; omega) (Nat.le_refl _)
  have e : (madeCells (Value.int .u64 0).cells (n * 1)).toList = List.replicate n (.int .u64 0) := by
    rw [Nat.mul_one]
    show (madeCells #[Value.int .u64 0] n).toList = _
    rw [toList_madeCells_one]
  rw [e] at r1
  have hA := (row_arr r1).1
  refine wpList_plain hgd fun K hK => ?_
  unfold Oper.wp
  simp [execOp, ho, hx, hy, hrun, Result.andThen]
  exact hK _ _ (h w' hA ((Below.refl _ _).grown r2 (Nat.le_refl _) (fun k hk => by cases hk)) hA.lt)
/-- the first k coins of n, as cells -/
def cvals (s : List UInt8) (W k n : Nat) : List Value := ((List.range k).map fun i => Value.int .u64 ((su s (8 * i) % W : Nat) : Int)) ++ List.replicate (n - k) (.int .u64 0)
theorem cvals_zero (s : List UInt8) (W n : Nat) : cvals s W 0 n = List.replicate n (.int .u64 0) := rfl
theorem cvals_len (s : List UInt8) (W k n : Nat) (h : k ≤ n) : (cvals s W k n).length = n := by simp [cvals]; omega
theorem cvals_at (s : List UInt8) (W k n : Nat) (h : k < n) : (cvals s W k n)[k]? = some (.int .u64 0) := by
  unfold cvals
  rw [List.getElem?_append_right (by simp), List.length_map, List.length_range, Nat.sub_self, List.getElem?_replicate, if_pos (by omega)]
theorem cvals_set (s : List UInt8) (W k n : Nat) (h : k < n) : (cvals s W k n).set k (.int .u64 ((su s (8 * k) % W : Nat) : Int)) = cvals s W (k + 1) n := by
  unfold cvals
  rw [List.set_append_right _ _ (by simp), List.range_succ, List.map_append, List.append_assoc]
  congr 1
  simp only [List.length_map, List.length_range, Nat.sub_self, List.map_cons, List.map_nil, List.cons_append, List.nil_append]
  rw [show n - k = (n - (k + 1)) + 1 by omega, List.replicate_succ]
  rfl
theorem cvals_get (s : List UInt8) (W n i : Nat) (h : i < n) : (cvals s W n n)[i]? = some (.int .u64 ((su s (8 * i) % W : Nat) : Int)) := by
  unfold cvals
  rw [List.getElem?_append_left (by simpa using h)]
  simp [h]
set_option maxRecDepth 100000 in
set_option maxHeartbeats 2000000 in
theorem coins_any (s : List UInt8) (hs : s.length = 32) (W : Nat) (h0 : 0 < W) (hW : W < 18446744073709551616) (n : Nat) (hn : n ≤ 640) (hT : ∀ i, i < n → su s (8 * i) ≤ topOf W) (w : World) :
    Calls Try.prog 107 #[.string ⟨s.toArray⟩, .int .u64 (W : Int), .int .i64 (n : Int)] w fun e w' => ∃ E, e = .returned (.tuple #[.slice (some ⟨E, 0, none⟩) n n, .int .i64 0]) ∧ arr w' E 32 (cvals s W n n) ∧ w.heap.size ≤ E ∧ Below w.heap.size w w' := by
  have HS := hid hs
  have HT := hid hT
  have h1 : (n : Int) ≤ 640 := by omega
  have h2 : ¬ (W : Int) = 0 := by omega
  have h3 : ((W : Int) == 0) = false := by simpa using h2
  have h4 : ¬ (n : Int) < 0 := by omega
  clear hs hT
  go_enter Try.func107, Try.ntmps107
  go_wp2_with fail
  refine (snew_any s HS.out w).mono ?_
  rintro e w1 ⟨rfl, hs1, b1⟩
  obtain ⟨g, hg⟩ : ∃ g, g = w.heap.size := ⟨_, rfl⟩
  rw [← hg] at hs1
  rw [← hg]
  have S1 := hid hs1
  have B1 := hid b1
  have HG := hid hg
  clear hs1 b1 hg
  go_wp2_with (refine wpList_zerosU rfl _ _ rfl n rfl rfl (by omega) ?_; intro w2 hA hb2 hlt2; have HA := hid hA; have HB := hid hb2; have HL := hid hlt2; clear hA hb2 hlt2)
  obtain ⟨E, hE⟩ : ∃ E, E = w1.heap.size := ⟨_, rfl⟩
  have hgE : g ≠ E := by have := S1.out.lt; omega
  have hwE : w.heap.size ≤ E := by have := B1.out.size; omega
  have hwg : w.heap.size ≤ g := by rw [HG.out]; exact Nat.le_refl _
  have S2 := hid (S1.out.keep HB.out)
  have B2 := hid (below_all B1.out HB.out)
  rw [← hE] at HA
  rw [← hE]
  clear HB HL S1 B1 HG hE
  go_loopw [34] (fun i wr => ∃ k : Nat, k ≤ n ∧ i = .int .i64 k ∧ Below w.heap.size w wr ∧ arr wr E 32 (cvals s W k n) ∧ isS wr g s (8 * k)) (fun i _ => n - (intOf i).toNat)
  case atStart => exact ⟨0, by omega, rfl, B2.out, HA.out, S2.out⟩
  case round =>
    clear B2 HA S2
    obtain ⟨k, hk, rfl, bw, ar, st⟩ := hrel
    by_cases hlk : k < n
    · have hlk' : (k : Int) < (n : Int) := by omega
      have BW := hid bw
      have AR := hid ar
      have ST := hid st
      clear bw ar st
      go_wp2_with fail
      refine (sbelow_take g s HS.out (8 * k) (by omega) W h0 hW (HT.out k hlk) wr ST.out).mono ?_
      rintro e w3 ⟨rfl, hs3, c3⟩
      have S3 := hid hs3
      have A3 := hid (AR.out.kept c3 hgE.symm)
      have B3 := hid (below_grown BW.out c3 BW.out.size hwg)
      have cv := A3.out.cell k _ (cvals_at s W k n hlk)
      have fv := A3.out.free k
      have lv := A3.out.lt
      clear hs3 c3 BW AR ST
      go_wp2
      go_roundw
      case rel =>
        refine ⟨k + 1, by omega, by go_num, B3.out.setCell hwE _, ?_, ?_⟩
        · rw [← cvals_set _ _ _ _ hlk]
          exact A3.out.set k _
        · rw [Nat.mul_succ]
          exact S3.out.set hgE.symm k _
      case measure => simp [intOf]; omega
    · obtain rfl : k = n := by omega
      have BW := hid bw
      have AR := hid ar
      clear bw ar st
      go_wp2
      go_ret2
      exact ⟨E, rfl, AR.out, hwE, BW.out⟩
set_option maxRecDepth 100000 in
theorem coins_many (s : List UInt8) (W n : Int) (h : n < 0 ∨ 640 < n) (w : World) :
    Calls Try.prog 107 #[.string ⟨s.toArray⟩, .int .u64 W, .int .i64 n] w fun e w' => e = .returned (.tuple #[.slice none 0 0, .int .i64 2]) ∧ w' = w := by
  rcases h with h1 | h1
  · go_enter Try.func107, Try.ntmps107
    go_wp2
    go_ret2
    exact ⟨rfl, rfl⟩
  · have h2 : ¬ n < 0 := by omega
    have h3 : decide (n < 0) = false := by simpa using h2
    go_enter Try.func107, Try.ntmps107
    go_wp2
    go_ret2
    exact ⟨rfl, rfl⟩
set_option maxRecDepth 100000 in
theorem coins_seed (s : List UInt8) (hs : ¬ s.length = 32) (W : Int) (n : Nat) (hn : n ≤ 640) (w : World) :
    Calls Try.prog 107 #[.string ⟨s.toArray⟩, .int .u64 W, .int .i64 (n : Int)] w fun e w' => e = .returned (.tuple #[.slice none 0 0, .int .i64 2]) ∧ w' = w := by
  have h1 : (n : Int) ≤ 640 := by omega
  have h4 : ¬ (n : Int) < 0 := by omega
  have HS := hid hs
  clear hs
  go_enter Try.func107, Try.ntmps107
  go_wp2_with fail
  refine (snew_bad s HS.out w).mono ?_
  rintro e w1 ⟨rfl, hw1⟩
  subst w1
  go_wp2
  go_ret2
  exact ⟨rfl, rfl⟩
set_option maxRecDepth 100000 in
theorem coins_zero (s : List UInt8) (hs : s.length = 32) (n : Nat) (hn : n ≤ 640) (w : World) :
    Calls Try.prog 107 #[.string ⟨s.toArray⟩, .int .u64 0, .int .i64 (n : Int)] w fun e w' => e = .returned (.tuple #[.slice none 0 0, .int .i64 2]) ∧ Below w.heap.size w w' := by
  have h1 : (n : Int) ≤ 640 := by omega
  have h4 : ¬ (n : Int) < 0 := by omega
  have HS := hid hs
  clear hs
  go_enter Try.func107, Try.ntmps107
  go_wp2_with fail
  refine (snew_any s HS.out w).mono ?_
  rintro e w1 ⟨rfl, _, b1⟩
  have B1 := hid b1
  clear b1
  go_wp2
  go_ret2
  exact ⟨rfl, B1.out⟩
/-- no coins, and refused -/
def NoCoins (s : List UInt8) (W n : Int) : Prop := ∀ w : World, Calls Try.prog 107 #[.string ⟨s.toArray⟩, .int .u64 W, .int .i64 n] w fun e w' => e = .returned (.tuple #[.slice none 0 0, .int .i64 2]) ∧ Below w.heap.size w w'
set_option maxRecDepth 100000 in
theorem refused_any (s : List UInt8) (W n : Int) (h : NoCoins s W n) (w : World) :
    Calls Try.prog 108 #[.string ⟨s.toArray⟩, .int .u64 W, .int .i64 n] w fun e w' => e = .returned (.bool true) ∧ Below w.heap.size w w' := by
  have H := hid h
  clear h
  go_enter Try.func108, Try.ntmps108
  go_wp2_with fail
  refine (H.out w).mono ?_
  rintro e w1 ⟨rfl, b1⟩
  have B1 := hid b1
  clear b1
  go_wp2
  go_ret
  exact ⟨rfl, B1.out⟩
theorem noCoins_many (s : List UInt8) (W n : Int) (h : n < 0 ∨ 640 < n) : NoCoins s W n := fun w => (coins_many s W n h w).mono fun e w' h => ⟨h.1, by rw [h.2]; exact Below.refl _ _⟩
theorem noCoins_seed (s : List UInt8) (hs : ¬ s.length = 32) (W : Int) (n : Nat) (hn : n ≤ 640) : NoCoins s W n := fun w => (coins_seed s hs W n hn w).mono fun e w' h => ⟨h.1, by rw [h.2]; exact Below.refl _ _⟩
theorem noCoins_zero (s : List UInt8) (hs : s.length = 32) (n : Nat) (hn : n ≤ 640) : NoCoins s 0 n := fun w => coins_zero s hs n hn w
def ncs (l : List Nat) : List Value := l.map fun n : Nat => .int .u64 (n : Int)
theorem ncs_get (l : List Nat) (i : Nat) (h : i < l.length) : (ncs l)[i]? = some (.int .u64 ((l.getD i 0 : Nat) : Int)) := by
  unfold ncs
  rw [List.getElem?_map, List.getD_eq_getElem?_getD, List.getElem?_eq_getElem h]; rfl
set_option maxRecDepth 100000 in
set_option maxHeartbeats 1000000 in
theorem nums_any (l : List Nat) (A B c d : Nat) (hl : l.length ≤ 1000) (w : World) (ha : arr w A 32 (ncs l)) (hb : arr w B 32 (ncs l)) :
    Calls Try.prog 146 #[.slice (some ⟨A, 0, none⟩) l.length c, .slice (some ⟨B, 0, none⟩) l.length d] w fun e w' => e = .returned (.bool true) ∧ Below w.heap.size w w' := by
  have HA := hid ha
  have HB := hid hb
  clear ha hb
  go_enter Try.func146, Try.ntmps146
  go_wp2_with fail
  go_loopw [5] (fun i wr => ∃ k : Nat, k ≤ l.length ∧ i = .int .i64 k ∧ Below w.heap.size w wr) (fun i _ => l.length - (intOf i).toNat)
  case atStart => exact ⟨0, by omega, rfl, Below.refl _ _⟩
  case round =>
    obtain ⟨k, hk, rfl, bw⟩ := hrel
    have BW := hid bw
    have hA := HA.out.keep bw
    have hB := HB.out.keep bw
    clear bw
    by_cases hlt : k < l.length
    · have hlt' : (k : Int) < (l.length : Int) := by omega
      have ca := hA.cell k _ (ncs_get l k hlt)
      have cb := hB.cell k _ (ncs_get l k hlt)
      have la := hA.lt
      have lb := hB.lt
      obtain ⟨x, hx⟩ : ∃ x : Nat, x = l.getD k 0 := ⟨_, rfl⟩
      rw [← hx] at ca cb
      clear hA hB hx
      go_wp2_with fail
      go_quiet (fail)
      go_wp2
      go_roundw
      case rel => exact ⟨k + 1, by omega, by go_num, below_drewN BW.out _⟩
      case measure => simp [intOf]; omega
    · obtain rfl : k = l.length := by omega
      clear hA hB
      go_wp2
      go_ret
      exact ⟨rfl, BW.out⟩
end Go.Proofs.Ytcfohdkdppiekaa
