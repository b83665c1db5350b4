/- window's Next: contracts. -/
import Derived.Test.YtcfohdkdppiekaaWWin
import Derived.Test.YtcfohdkdppiekaaSched
namespace Go.Proofs.Ytcfohdkdppiekaa
open Go.RowKit Go.Proofs Go
set_option maxRecDepth 100000 in
theorem wplace_eq (g i p : Nat) (hi : i ≤ 1000) (hp : p < 32) (w : World) (c : w.cell? ⟨g, 96, none⟩ = some (.int .i64 (p : Int))) (lg : g < w.heap.size) :
    Calls Try.prog 118 #[.pointer (some ⟨g, 0, none⟩), .int .i64 (i : Int)] w fun e w' => e = .returned (.int .i64 (((p + i) % 32 : Nat) : Int)) ∧ w' = w := by
  have hm : ((p : Int) + (i : Int)) % 32 = (((p + i) % 32 : Nat) : Int) := by omega
  go_enter Try.func118, Try.ntmps118
  go_wp2
  go_ret
  refine ⟨?_, rfl⟩
  show Ending.returned (.int .i64 (((p : Int) + (i : Int)) % 32)) = _
  rw [hm]
set_option maxRecDepth 100000 in
theorem wnext_none (g most : Nat) (w : World) (h : isW w g most []) :
    Calls Try.prog 59 #[.pointer (some ⟨g, 0, none⟩)] w fun e w' => e = .returned (.tuple #[.int .u64 0, .bool false]) ∧ w' = w := by
  have H := hid h
  clear h
  go_enter Try.func59, Try.ntmps59
  go_wp2_with fail
  refine (wlen_any g most [] w H.out).mono ?_
  rintro e w1 ⟨rfl, hw1⟩
  subst w1
  go_wp2
  go_ret2
  exact ⟨rfl, rfl⟩
set_option maxRecDepth 100000 in
set_option maxHeartbeats 1000000 in
theorem wnext_some (g most : Nat) (L : List Iv) (x : Iv) (hx : L.getLast? = some x) (w : World) (h : isW w g most L) :
    Calls Try.prog 59 #[.pointer (some ⟨g, 0, none⟩)] w fun e w' => e = .returned (.tuple #[.int .u64 ((x.2.1 + 1 : Nat) : Int), .bool true]) ∧ Below w.heap.size w w' := by
  have H := hid h
  obtain ⟨cs, p, hc, hm, h1, h32, hk, ha⟩ := h
  obtain ⟨n, hn⟩ : ∃ n, L.length = n + 1 := by
    cases L with
    | nil => simp at hx
    | cons a l => exact ⟨l.length, rfl⟩
  have hxn : L[n]? = some x := by rw [← hx, List.getLast?_eq_getElem?, hn]; rfl
  have hok := hk.ok x (List.mem_of_getElem? hxn)
  have hl : x.2.1 < 18446744073709551615 := hok.2.2.2
  obtain ⟨j, hj⟩ : ∃ j, j = (p + n) % 32 := ⟨_, rfl⟩
  have hj32 : j < 32 := by omega
  have e1 := hc.at1 n x hxn
  rw [← hj] at e1
  have c1 := ha.cell (3 * j + 1) _ (by rw [List.getElem?_append_left (by rw [hc.len]; omega)]; exact e1)
  have cp := (win_cell hc.len ha).1
  have cn := (win_cell hc.len ha).2.1
  have lg := ha.lt
  have hp := hc.hp
  rw [hn] at cn
  have hnn : ((L.length : Int) == 0) = false := by rw [hn]; simp; omega
  have hLn : ¬ (L.length : Int) = 0 := by omega
  obtain ⟨l, hlx⟩ : ∃ l, l = x.2.1 := ⟨_, rfl⟩
  rw [← hlx] at c1 hl
  rw [← hlx]
  have HJ := hid hj
  clear hj ha hk hc e1 hok hxn hx hlx
  go_enter Try.func59, Try.ntmps59
  go_wp2_with fail
  refine (wlen_any g most L w H.out).mono ?_
  rintro e w1 ⟨rfl, hw1⟩
  subst w1
  go_wp2_with fail
  have S0 : w.drew.cell? ⟨g, 97, none⟩ = some (.int .i64 ((n : Int) + 1)) ∧ g < w.drew.heap.size := ⟨by have h : w.drew.cell? ⟨g, 97, none⟩ = _ := cn; rw [h]; simp, lg⟩
  refine wp_region_sched (fun W => W.cell? ⟨g, 97, none⟩ = some (.int .i64 ((n : Int) + 1)) ∧ g < W.heap.size) [(true, 0), (true, 1), (true, 2), (true, 3), (true, 4), (true, 5), (true, 6), (true, 8), (true, 9), (false, 7)] 10 rfl (by kernel_rfl) (by kernel_rfl) (by kernel_rfl) (by decide) rfl (by kernel_rfl) (fun o _ _ _ _ h => by cases o <;> exact h) S0 ?_
  refine sched_soft rfl (by kernel_rfl) (v := .pointer (some ⟨g, 0, none⟩)) (fun W hW => (by have hc := hW.1; have hl := hW.2; go_simp)) ?_
  refine sched_soft rfl (by kernel_rfl) (v := .pointer (some ⟨g, 0, none⟩)) (fun W hW => (by have hc := hW.1; have hl := hW.2; go_simp)) ?_
  refine sched_soft rfl (by kernel_rfl) (v := .pointer (some ⟨g, 0, none⟩)) (fun W hW => (by have hc := hW.1; have hl := hW.2; go_simp)) ?_
  refine sched_soft rfl (by kernel_rfl) (v := .pointer (some ⟨g, 0, none⟩)) (fun W hW => (by have hc := hW.1; have hl := hW.2; go_simp)) ?_
  refine sched_soft rfl (by kernel_rfl) (v := .pointer (some ⟨g, 97, none⟩)) (fun W hW => (by have hc := hW.1; have hl := hW.2; go_simp)) ?_
  refine sched_soft rfl (by kernel_rfl) (v := .int .i64 ((n : Int) + 1)) (fun W hW => (by have hc := hW.1; have hl := hW.2; go_simp)) ?_
  refine sched_soft rfl (by kernel_rfl) (v := .int .i64 (n : Int)) (fun W hW => (by go_simp; rw [IntKind.wrap_i64]; omega)) ?_
  refine sched_soft rfl (by kernel_rfl) (v := .pointer (some ⟨g, 0, none⟩)) (fun W hW => (by have hl := hW.2; go_simp)) ?_
  refine sched_soft rfl (by kernel_rfl) (v := .pointer (some ⟨g, 0, none⟩)) (fun W hW => (by have hl := hW.2; go_simp)) ?_
  refine sched_op rfl (by kernel_rfl) ?_
  go_simp
  refine (wplace_eq g n p (by omega) hp w.drew cp lg).mono ?_
  rintro e w2 ⟨rfl, hw2⟩
  subst w2
  refine ⟨S0, ?_⟩
  rw [← HJ.out]
  have cj : w.drew.cell? ⟨g, j * 3 + 1, none⟩ = some (.int .u64 (l : Int)) := by rw [Nat.mul_comm]; exact c1
  have lg2 : g < w.drew.heap.size := lg
  have hjI : (j : Int) < 32 := by omega
  refine sched_done ?_
  go_wp2
  go_ret2
  exact ⟨rfl, (Below.refl _ _).drew⟩
set_option maxRecDepth 100000 in
theorem errno_same (a : Int) (w : World) : Calls Try.prog 117 #[.int .i64 a, .int .i64 a] w fun e w' => e = .returned (.bool true) ∧ w' = w := by
  go_enter Try.func117, Try.ntmps117
  go_wp2
  go_ret
  exact ⟨rfl, rfl⟩
set_option maxRecDepth 100000 in
theorem wnew_bad (n : Int) (h : n < 1 ∨ 32 < n) (w : World) : Calls Try.prog 49 #[.int .i64 n] w fun e w' => e = .returned (.pointer none) ∧ w' = w := by
  rcases h with h1 | h1
  · go_enter Try.func49, Try.ntmps49
    go_wp2
    go_ret
    exact ⟨rfl, rfl⟩
  · have h2 : ¬ n < 1 := by omega
    have h3 : decide (n < 1) = false := by simpa using h2
    go_enter Try.func49, Try.ntmps49
    go_wp2
    go_ret
    exact ⟨rfl, rfl⟩
set_option maxRecDepth 100000 in
theorem rnew_bad (n : Int) (h : n < 1 ∨ 32 < n) (w : World) : Calls Try.prog 50 #[.int .i64 n] w fun e w' => e = .returned (.pointer none) ∧ w' = w := by
  rcases h with h1 | h1
  · go_enter Try.func50, Try.ntmps50
    go_wp2
    go_ret
    exact ⟨rfl, rfl⟩
  · have h2 : ¬ n < 1 := by omega
    have h3 : decide (n < 1) = false := by simpa using h2
    go_enter Try.func50, Try.ntmps50
    go_wp2
    go_ret
    exact ⟨rfl, rfl⟩
set_option maxRecDepth 100000 in
theorem wnext_nil (w : World) : Calls Try.prog 59 #[.pointer none] w fun e w' => e = .returned (.tuple #[.int .u64 0, .bool false]) ∧ w' = w := by
  go_enter Try.func59, Try.ntmps59
  go_wp2_with fail
  refine (wlen_nil w).mono ?_
  rintro e w1 ⟨rfl, hw1⟩
  subst w1
  go_wp2
  go_ret2
  exact ⟨rfl, rfl⟩
set_option maxRecDepth 100000 in
theorem wput_nil (f l : Int) (r : List UInt8) (w : World) : Calls Try.prog 54 #[.pointer none, .int .u64 f, .int .u64 l, .string ⟨r.toArray⟩] w fun e w' => e = .returned (.int .i64 1) ∧ w' = w := by
  go_enter Try.func54, Try.ntmps54
  go_wp2_with fail
  refine (wnext_nil w).mono ?_
  rintro e w1 ⟨rfl, hw1⟩
  subst w1
  go_wp2
  go_ret
  exact ⟨rfl, rfl⟩
end Go.Proofs.Ytcfohdkdppiekaa
