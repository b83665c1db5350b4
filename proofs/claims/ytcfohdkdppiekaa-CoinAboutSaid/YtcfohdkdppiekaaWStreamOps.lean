/- The stream's other calls: New, Place, Copy, Below where the first number may be taken, refusals; law03's seed: contracts. -/
import Derived.Test.YtcfohdkdppiekaaWUint
namespace Go.Proofs.Ytcfohdkdppiekaa
open Go Go.RowKit Go.Proofs
set_option maxRecDepth 100000 in
theorem snew_any (s : List UInt8) (hs : s.length = 32) (w : World) :
    Calls Try.prog 64 #[.string ⟨s.toArray⟩] w fun e w' => e = .returned (.tuple #[.pointer (some ⟨w.heap.size, 0, none⟩), .int .i64 0]) ∧ isS w' w.heap.size s 0 ∧ Below w.heap.size w w' := by
  have hs1 : (s.length : Int) = 32 := by omega
  go_enter Try.func64, Try.ntmps64
  go_wp2
  go_ret2
  exact ⟨rfl, ⟨[], 0, by omega, arr.new w 163 [.string ⟨s.toArray⟩, .int .u64 0, .string ⟨#[]⟩, .int .u64 0], Or.inl rfl⟩, (Below.refl _ _).alloc (Nat.le_refl _) _⟩
set_option maxRecDepth 100000 in
theorem snew_bad (s : List UInt8) (hs : ¬ s.length = 32) (w : World) :
    Calls Try.prog 64 #[.string ⟨s.toArray⟩] w fun e w' => e = .returned (.tuple #[.pointer none, .int .i64 2]) ∧ w' = w := by
  have h1 : ((s.length : Int) != 32) = true := by simp; omega
  have h2 : ¬ (s.length : Int) = 32 := by omega
  clear hs
  go_enter Try.func64, Try.ntmps64
  go_wp2
  go_ret2
  exact ⟨rfl, rfl⟩
set_option maxRecDepth 100000 in
theorem place_any (g : Nat) (s : List UInt8) (k : Nat) (w : World) (h : isS w g s k) :
    Calls Try.prog 68 #[.pointer (some ⟨g, 0, none⟩)] w fun e w' => e = .returned (.int .u64 (k : Int)) ∧ w' = w := by
  obtain ⟨blk, n, hn, ha, hx⟩ := h
  have c1 := ha.cell 1 _ rfl
  have lg := ha.lt
  clear ha hx
  go_enter Try.func68, Try.ntmps68
  go_wp2
  go_ret
  exact ⟨rfl, rfl⟩
set_option maxRecDepth 100000 in
theorem place_nil (w : World) : Calls Try.prog 68 #[.pointer none] w fun e w' => e = .returned (.int .u64 0) ∧ w' = w := by
  go_enter Try.func68, Try.ntmps68
  go_wp2
  go_ret
  exact ⟨rfl, rfl⟩
set_option maxRecDepth 100000 in
theorem scopy_any (g : Nat) (s : List UInt8) (k : Nat) (w : World) (h : isS w g s k) :
    Calls Try.prog 66 #[.pointer (some ⟨g, 0, none⟩)] w fun e w' => e = .returned (.pointer (some ⟨w.heap.size, 0, none⟩)) ∧ isS w' w.heap.size s k ∧ Below w.heap.size w w' := by
  obtain ⟨blk, n, hn, ha, hx⟩ := h
  have c0 := ha.cell 0 _ rfl
  have c1 := ha.cell 1 _ rfl
  have c2 := ha.cell 2 _ rfl
  have c3 := ha.cell 3 _ rfl
  have lg := ha.lt
  have HX := hid hx
  clear ha hx
  go_enter Try.func66, Try.ntmps66
  go_wp2
  go_ret
  exact ⟨rfl, ⟨blk, n, hn, arr.new w 163 [.string ⟨s.toArray⟩, .int .u64 (k : Int), .string ⟨blk.toArray⟩, .int .u64 (n : Int)], HX.out⟩, (Below.refl _ _).alloc (Nat.le_refl _) _⟩
set_option maxRecDepth 100000 in
theorem scopy_nil (w : World) : Calls Try.prog 66 #[.pointer none] w fun e w' => e = .returned (.pointer none) ∧ w' = w := by
  go_enter Try.func66, Try.ntmps66
  go_wp2
  go_ret
  exact ⟨rfl, rfl⟩
set_option maxRecDepth 100000 in
theorem bytes_nil (n : Int) (w : World) : Calls Try.prog 67 #[.pointer none, .int .i64 n] w fun e w' => e = .returned (.tuple #[.string ⟨#[]⟩, .int .i64 1]) ∧ w' = w := by
  refine calls_of_marks Try.func67 rfl ?_
  simp only [Try.ntmps67, List.size_toArray, List.length_cons, List.length_nil, Nat.reduceAdd, Nat.reduceSub, Array.replicate_succ, Array.replicate_zero, List.push_toArray, List.append_toArray, List.nil_append, List.cons_append]
  go_wp2
  exact marks_none rfl (results_tmp2 rfl _ _ _) ⟨rfl, rfl⟩
set_option maxRecDepth 100000 in
theorem bytes_bad (n : Int) (hn : n < 0 ∨ 65536 < n) (a : Addr) (w : World) : Calls Try.prog 67 #[.pointer (some a), .int .i64 n] w fun e w' => e = .returned (.tuple #[.string ⟨#[]⟩, .int .i64 2]) ∧ w' = w := by
  rcases hn with h | h
  · refine calls_of_marks Try.func67 rfl ?_
    simp only [Try.ntmps67, List.size_toArray, List.length_cons, List.length_nil, Nat.reduceAdd, Nat.reduceSub, Array.replicate_succ, Array.replicate_zero, List.push_toArray, List.append_toArray, List.nil_append, List.cons_append]
    go_wp2
    exact marks_none rfl (results_tmp2 rfl _ _ _) ⟨rfl, rfl⟩
  · have h2 : ¬ n < 0 := by omega
    have h3 : decide (n < 0) = false := by simpa using h2
    refine calls_of_marks Try.func67 rfl ?_
    simp only [Try.ntmps67, List.size_toArray, List.length_cons, List.length_nil, Nat.reduceAdd, Nat.reduceSub, Array.replicate_succ, Array.replicate_zero, List.push_toArray, List.append_toArray, List.nil_append, List.cons_append]
    go_wp2
    exact marks_none rfl (results_tmp2 rfl _ _ _) ⟨rfl, rfl⟩
set_option maxRecDepth 100000 in
theorem uint64_nil (w : World) : Calls Try.prog 70 #[.pointer none] w fun e w' => e = .returned (.int .u64 0) ∧ Below w.heap.size w w' := by
  refine calls_of_marks Try.func70 rfl ?_
  simp only [Try.ntmps70, List.size_toArray, List.length_cons, List.length_nil, Nat.reduceAdd, Nat.reduceSub, Array.replicate_succ, Array.replicate_zero, List.push_toArray, List.append_toArray, List.nil_append, List.cons_append]
  go_wp2
  exact marks_none rfl (results_tmp rfl _ _ _) ⟨rfl, (Below.refl _ _).alloc (Nat.le_refl _) _⟩
set_option maxRecDepth 100000 in
theorem sbelow_nil (n : Int) (w : World) : Calls Try.prog 69 #[.pointer none, .int .u64 n] w fun e w' => e = .returned (.tuple #[.int .u64 0, .int .i64 1]) ∧ w' = w := by
  go_enter Try.func69, Try.ntmps69
  go_wp2
  go_ret2
  exact ⟨rfl, rfl⟩
set_option maxRecDepth 100000 in
theorem sbelow_zero (a : Addr) (w : World) : Calls Try.prog 69 #[.pointer (some a), .int .u64 0] w fun e w' => e = .returned (.tuple #[.int .u64 0, .int .i64 2]) ∧ w' = w := by
  go_enter Try.func69, Try.ntmps69
  go_wp2
  go_ret2
  exact ⟨rfl, rfl⟩
/-- the greatest number that may be taken -/
def topOf (n : Nat) : Nat := 18446744073709551615 - (18446744073709551616 - n) % 18446744073709551616 % n
set_option maxRecDepth 100000 in
set_option maxHeartbeats 2000000 in
theorem sbelow_take (g : Nat) (s : List UInt8) (hs : s.length = 32) (k : Nat) (hk : k < 1000000000) (n : Nat) (h0 : 0 < n) (hn : n < 18446744073709551616) (hT : su s k ≤ topOf n) (w : World) (h : isS w g s k) :
    Calls Try.prog 69 #[.pointer (some ⟨g, 0, none⟩), .int .u64 (n : Int)] w fun e w' => e = .returned (.tuple #[.int .u64 ((su s k % n : Nat) : Int), .int .i64 0]) ∧ isS w' g s (k + 8) ∧ w.grownBy w' (some g) := by
  have HS := hid hs
  have H := hid h
  obtain ⟨N, hN⟩ : ∃ N : Int, N = (n : Int) := ⟨_, rfl⟩
  have i0 : 0 < N := by omega
  have i1 : N ≤ 18446744073709551615 := by omega
  have i2 : ¬ N = 0 := by omega
  have i3 : (N == 0) = false := by simpa using i2
  rw [← hN]
  have HN := hid hN
  have HT := hid hT
  have hto : IntKind.u64.wrap (18446744073709551615 - (IntKind.u64.wrap (-N)).tmod N) = (topOf n : Int) := by
    rw [IntKind.wrap_u64, IntKind.wrap_u64]
    have e1 : -N % 18446744073709551616 = ((18446744073709551616 - n : Nat) : Int) := by omega
    have e2 : (18446744073709551616 - n) % 18446744073709551616 = 18446744073709551616 - n := by omega
    obtain ⟨r, hr⟩ : ∃ r : Nat, r = (18446744073709551616 - n) % n := ⟨_, rfl⟩
    have h3 : r < n := by rw [hr]; exact Nat.mod_lt _ h0
    have e3 : ((18446744073709551616 - n : Nat) : Int) % (n : Int) = (r : Int) := by rw [hr]; exact (Int.natCast_emod _ _).symm
    have e4 : topOf n = 18446744073709551615 - r := by rw [topOf, e2, ← hr]
    have hrn : r ≤ 18446744073709551615 := by omega
    rw [e1, hN, Int.tmod_eq_emod_of_nonneg (Int.natCast_nonneg _), e3, e4]
    clear hr e1 e2 e3 e4 hT
    omega
  have HTO := hid hto
  clear hs h hN hT h0 hn hto
  go_enter Try.func69, Try.ntmps69
  go_wp2_with fail
  rw [HTO.out]
  refine (uint64_any g s HS.out k hk w H.out).mono ?_
  rintro e w1 ⟨rfl, hst, hg⟩
  have HST := hid hst
  have HG := hid hg
  clear hst hg
  go_wp2_with fail
  obtain ⟨U, hU⟩ : ∃ U : Int, U = (su s k : Int) := ⟨_, rfl⟩
  obtain ⟨T, hTn⟩ : ∃ T : Int, T = (topOf n : Int) := ⟨_, rfl⟩
  have hUT : ¬ T < U := by rw [hU, hTn]; have := HT.out; omega
  have hU0 : 0 ≤ U := by omega
  rw [← hU, ← hTn]
  have HU := hid hU
  clear hU hTn
  go_loopw [7] (fun x wr => x = .int .u64 U ∧ wr = w1) (fun _ _ => 0)
  case atStart => exact ⟨rfl, rfl⟩
  case round =>
    obtain ⟨rfl, rfl⟩ := hrel
    go_wp2
    go_ret2
    refine ⟨?_, HST.out, HG.out⟩
    show Ending.returned (.tuple #[.int .u64 (U % N), .int .i64 0]) = _
    rw [HU.out, HN.out]
end Go.Proofs.Ytcfohdkdppiekaa
