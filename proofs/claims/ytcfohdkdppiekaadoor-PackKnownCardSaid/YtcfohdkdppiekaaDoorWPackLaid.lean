/- pack's document: Laid: contract. -/
import Derived.Test.YtcfohdkdppiekaaDoorWPackRef
namespace Go.Proofs.YtcfohdkdppiekaaDoor
open Go.RowKit Go.Proofs
/-- a 64-bit word, read with its sign -/
def sgn (n : Nat) : Int := if n < 9223372036854775808 then (n : Int) else (n : Int) - 18446744073709551616
def six (sort : Int) : Nat := if sort = 0 then 0 else if sort = 1 then 1 else if sort = 2 then 2 else if sort = 3 then 3 else 4
/-- what a call lays, and its word -/
def layOf (sort : Int) (n : Nat) (s : List UInt8) : List UInt8 × Int :=
  if sort = 0 then (pick (tab.getD 0 []) n, 0) else if sort = 1 then (wlay (tab.getD 1 []) s, wcode s) else if sort = 2 then (wlay (tab.getD 2 []) s, wcode s)
  else if sort = 3 then (mlay (tab.getD 3 []) (sgn n), mcode (sgn n)) else (mlay (tab.getD 4 []) (sgn n), mcode (sgn n))
theorem wpList_strlen {ops : Array Oper} {rest : List Oper} {o : Oper} {a : Act} {w : World} {Q : Exit → Act → World → Prop} (hgd : o.guard = none) (x : Operand) (ho : o.op = .call { callee := .builtin .len, args := #[x], argTypes := #[9] }) (b : ByteArray)
    (hx : a.eval x = .string b) (N : Int) (hN : (b.size : Int) = N) (h : wpList Tryd.prog ops Q rest (a.put o.dst (.int .i64 N)) w) : wpList Tryd.prog ops Q (o :: rest) a w := by
  refine wpList_plain hgd fun K hK => ?_
  unfold Oper.wp
  subst hN
  simp only [execOp, ho, resolve, invoke, builtin, Sem.run_bind, Sem.run_pure, Result.andThen_ok, List.map_toArray, List.map_cons, List.map_nil, hx]
  exact hK _ _ h
def Gives2 (w : World) (l : List UInt8 × Int) : Ending → World → Prop := fun e w' => e = .returned (.tuple #[.string ⟨l.1.toArray⟩, .int .i64 l.2]) ∧ Below w.heap.size w w'
set_option maxRecDepth 100000 in
set_option maxHeartbeats 2000000 in
theorem rlaid0 (n : Nat) (hn : n < 2 ^ 64) (s : List UInt8) (w : World) : Calls Tryd.prog 10 #[.int .i64 0, .int .u64 (n : Int), .string ⟨s.toArray⟩] w (Gives2 w (pick (tab.getD 0 []) n, 0)) := by
  have hnn := hid hn
  clear hn
  go_enter Tryd.func10, Tryd.ntmps10
  go_wp2_with fail
  refine (rnum_any n hnn.out _).mono ?_
  rintro e w1 ⟨rfl, b1⟩
  go_wp2
  go_ret2
  exact ⟨rfl, b1⟩
set_option maxRecDepth 100000 in
set_option maxHeartbeats 2000000 in
theorem rlaid1 (n0 : Int) (s : List UInt8) (hs : s.length ≤ 1000000) (w : World) : Calls Tryd.prog 10 #[.int .i64 1, .int .u64 n0, .string ⟨s.toArray⟩] w (Gives2 w (wlay (tab.getD 1 []) s, wcode s)) := by
  by_cases h1 : s.length < 65536
  · rw [wlay, wcode, if_pos h1, if_pos h1]
    obtain ⟨P, hP⟩ : ∃ P, P = pick (tab.getD 1 []) s.length := ⟨_, rfl⟩
    have hPl : P.length ≤ 9 := by rw [hP]; exact pick_len _ (tab_mem (sort := 1) rfl) _
    rw [← hP]
    have HP := hid hP
    have H1 := hid h1
    obtain ⟨N, hN⟩ : ∃ N : Int, N = (s.length : Int) := ⟨_, rfl⟩
    have i0 : 0 ≤ N := by omega
    have i1 : N < 65536 := by omega
    have hLN : (s.length : Int) = N := hN.symm
    have HN := hid hN
    have HS := hid hs
    have HPL := hid hPl
    clear hP h1 hN hs hPl
    go_enter Tryd.func10, Tryd.ntmps10
    go_wp2_with fail
    clear hLN
    rw [HN.out]
    refine (rhead1_any s.length H1.out _).mono ?_
    rintro e w1 ⟨rfl, b1⟩
    rw [← HP.out]
    have hs := HS.out
    have hPl := HPL.out
    go_wp2
    go_ret2
    refine ⟨?_, b1⟩
    show _ = Ending.returned (.tuple #[.string ⟨(P ++ s).toArray⟩, .int .i64 0])
    rw [← str_app]; rfl
  · rw [wlay, wcode, if_neg h1, if_neg h1]
    obtain ⟨N, hN⟩ : ∃ N : Int, N = (s.length : Int) := ⟨_, rfl⟩
    have i1 : (65536 : Int) ≤ N := by omega
    have i2 : N ≤ 1000000 := by omega
    have hLN : (s.length : Int) = N := hN.symm
    clear h1 hN hs
    go_enter Tryd.func10, Tryd.ntmps10
    go_wp2_with fail
    go_ret2
    exact ⟨rfl, Below.refl _ _⟩
set_option maxRecDepth 100000 in
set_option maxHeartbeats 2000000 in
theorem rlaid2 (n0 : Int) (s : List UInt8) (hs : s.length ≤ 1000000) (w : World) : Calls Tryd.prog 10 #[.int .i64 2, .int .u64 n0, .string ⟨s.toArray⟩] w (Gives2 w (wlay (tab.getD 2 []) s, wcode s)) := by
  by_cases h1 : s.length < 65536
  · rw [wlay, wcode, if_pos h1, if_pos h1]
    obtain ⟨P, hP⟩ : ∃ P, P = pick (tab.getD 2 []) s.length := ⟨_, rfl⟩
    have hPl : P.length ≤ 9 := by rw [hP]; exact pick_len _ (tab_mem (sort := 2) rfl) _
    rw [← hP]
    have HP := hid hP
    have H1 := hid h1
    obtain ⟨N, hN⟩ : ∃ N : Int, N = (s.length : Int) := ⟨_, rfl⟩
    have i0 : 0 ≤ N := by omega
    have i1 : N < 65536 := by omega
    have hLN : (s.length : Int) = N := hN.symm
    have HN := hid hN
    have HS := hid hs
    have HPL := hid hPl
    clear hP h1 hN hs hPl
    go_enter Tryd.func10, Tryd.ntmps10
    go_wp2_with fail
    clear hLN
    rw [HN.out]
    refine (rhead2_any s.length H1.out _).mono ?_
    rintro e w1 ⟨rfl, b1⟩
    rw [← HP.out]
    have hs := HS.out
    have hPl := HPL.out
    go_wp2
    go_ret2
    refine ⟨?_, b1⟩
    show _ = Ending.returned (.tuple #[.string ⟨(P ++ s).toArray⟩, .int .i64 0])
    rw [← str_app]; rfl
  · rw [wlay, wcode, if_neg h1, if_neg h1]
    obtain ⟨N, hN⟩ : ∃ N : Int, N = (s.length : Int) := ⟨_, rfl⟩
    have i1 : (65536 : Int) ≤ N := by omega
    have i2 : N ≤ 1000000 := by omega
    have hLN : (s.length : Int) = N := hN.symm
    clear h1 hN hs
    go_enter Tryd.func10, Tryd.ntmps10
    go_wp2_with fail
    go_ret2
    exact ⟨rfl, Below.refl _ _⟩
set_option maxRecDepth 100000 in
set_option maxHeartbeats 2000000 in
theorem rlaid3 (n : Nat) (hn : n < 2 ^ 64) (s : List UInt8) (w : World) : Calls Tryd.prog 10 #[.int .i64 3, .int .u64 (n : Int), .string ⟨s.toArray⟩] w (Gives2 w (mlay (tab.getD 3 []) (sgn n), mcode (sgn n))) := by
  obtain ⟨N, hN⟩ : ∃ N : Int, N = (n : Int) := ⟨_, rfl⟩
  rw [← hN]
  have N0 : 0 ≤ N := by omega
  have N1 : N < 18446744073709551616 := by omega
  by_cases ha : 9223372036854775808 ≤ N
  · have es : sgn n = N - 18446744073709551616 := by unfold sgn; rw [if_neg (by omega), hN]
    have e1 : mcode (sgn n) = 2 := by unfold mcode; rw [es, if_pos (by omega)]
    have e2 : mlay (tab.getD 3 []) (sgn n) = [] := by unfold mlay; rw [e1]; rfl
    rw [e1, e2]
    have hwr : wrap64 N = N - 18446744073709551616 := by unfold wrap64; omega
    have hng : N - 18446744073709551616 < 0 := by omega
    clear e1 e2 es hN hn
    go_enter Tryd.func10, Tryd.ntmps10
    go_wp2
    go_ret2
    exact ⟨rfl, Below.refl _ _⟩
  · by_cases hb : 65536 ≤ N
    · have es : sgn n = N := by unfold sgn; rw [if_pos (by omega), hN]
      have e1 : mcode (sgn n) = 3 := by unfold mcode; rw [es, if_neg (by omega), if_pos (by omega)]
      have e2 : mlay (tab.getD 3 []) (sgn n) = [] := by unfold mlay; rw [e1]; rfl
      rw [e1, e2]
      clear e1 e2 es hN hn
      go_enter Tryd.func10, Tryd.ntmps10
      go_wp2
      go_ret2
      exact ⟨rfl, Below.refl _ _⟩
    · have es : sgn n = N := by unfold sgn; rw [if_pos (by omega), hN]
      have e1 : mcode (sgn n) = 0 := by unfold mcode; rw [es, if_neg (by omega), if_neg (by omega)]
      have e2 : mlay (tab.getD 3 []) (sgn n) = pick (tab.getD 3 []) n := by
        unfold mlay; rw [e1, es, hN]; rfl
      rw [e1, e2]
      have HN := hid hN
      clear e1 e2 es hN hn
      have ha' : N < 9223372036854775808 := by omega
      have hb' : N < 65536 := by omega
      go_enter Tryd.func10, Tryd.ntmps10
      go_wp2_with fail
      rw [HN.out]
      refine (rhead3_any n (by have := HN.out; omega) _).mono ?_
      rintro e w1 ⟨rfl, b1⟩
      go_wp2
      go_ret2
      exact ⟨rfl, b1⟩
set_option maxRecDepth 100000 in
set_option maxHeartbeats 2000000 in
theorem rlaid4 (S : Int) (h0 : ¬ S = 0) (h1 : ¬ S = 1) (h2 : ¬ S = 2) (h3 : ¬ S = 3) (n : Nat) (hn : n < 2 ^ 64) (s : List UInt8) (w : World) : Calls Tryd.prog 10 #[.int .i64 S, .int .u64 (n : Int), .string ⟨s.toArray⟩] w (Gives2 w (mlay (tab.getD 4 []) (sgn n), mcode (sgn n))) := by
  obtain ⟨N, hN⟩ : ∃ N : Int, N = (n : Int) := ⟨_, rfl⟩
  rw [← hN]
  have N0 : 0 ≤ N := by omega
  have N1 : N < 18446744073709551616 := by omega
  have q0 : (S == 0) = false := by simpa using h0
  have q1 : (S == 1) = false := by simpa using h1
  have q2 : (S == 2) = false := by simpa using h2
  have q3 : (S == 3) = false := by simpa using h3
  by_cases ha : 9223372036854775808 ≤ N
  · have es : sgn n = N - 18446744073709551616 := by unfold sgn; rw [if_neg (by omega), hN]
    have e1 : mcode (sgn n) = 2 := by unfold mcode; rw [es, if_pos (by omega)]
    have e2 : mlay (tab.getD 4 []) (sgn n) = [] := by unfold mlay; rw [e1]; rfl
    rw [e1, e2]
    have hwr : wrap64 N = N - 18446744073709551616 := by unfold wrap64; omega
    have hng : N - 18446744073709551616 < 0 := by omega
    clear e1 e2 es hN hn
    go_enter Tryd.func10, Tryd.ntmps10
    go_wp2
    go_ret2
    exact ⟨rfl, Below.refl _ _⟩
  · by_cases hb : 65536 ≤ N
    · have es : sgn n = N := by unfold sgn; rw [if_pos (by omega), hN]
      have e1 : mcode (sgn n) = 3 := by unfold mcode; rw [es, if_neg (by omega), if_pos (by omega)]
      have e2 : mlay (tab.getD 4 []) (sgn n) = [] := by unfold mlay; rw [e1]; rfl
      rw [e1, e2]
      clear e1 e2 es hN hn
      go_enter Tryd.func10, Tryd.ntmps10
      go_wp2
      go_ret2
      exact ⟨rfl, Below.refl _ _⟩
    · have es : sgn n = N := by unfold sgn; rw [if_pos (by omega), hN]
      have e1 : mcode (sgn n) = 0 := by unfold mcode; rw [es, if_neg (by omega), if_neg (by omega)]
      have e2 : mlay (tab.getD 4 []) (sgn n) = pick (tab.getD 4 []) n := by
        unfold mlay; rw [e1, es, hN]; rfl
      rw [e1, e2]
      have HN := hid hN
      clear e1 e2 es hN hn
      have ha' : N < 9223372036854775808 := by omega
      have hb' : N < 65536 := by omega
      go_enter Tryd.func10, Tryd.ntmps10
      go_wp2_with fail
      rw [HN.out]
      refine (rhead4_any S h1 h2 h3 n (by have := HN.out; omega) _).mono ?_
      rintro e w1 ⟨rfl, b1⟩
      go_wp2
      go_ret2
      exact ⟨rfl, b1⟩
theorem rlaid_any (S : Int) (n : Nat) (hn : n < 2 ^ 64) (s : List UInt8) (hs : s.length ≤ 1000000) (w : World) : Calls Tryd.prog 10 #[.int .i64 S, .int .u64 (n : Int), .string ⟨s.toArray⟩] w (Gives2 w (layOf S n s)) := by
  by_cases h0 : S = 0
  · subst h0; exact rlaid0 n hn s w
  by_cases h1 : S = 1
  · subst h1; exact rlaid1 (n : Int) s hs w
  by_cases h2 : S = 2
  · subst h2; exact rlaid2 (n : Int) s hs w
  by_cases h3 : S = 3
  · subst h3; exact rlaid3 n hn s w
  have e : layOf S n s = (mlay (tab.getD 4 []) (sgn n), mcode (sgn n)) := by
    unfold layOf
    rw [if_neg h0, if_neg h1, if_neg h2, if_neg h3]
  rw [e]
  exact rlaid4 S h0 h1 h2 h3 n hn s w
end Go.Proofs.YtcfohdkdppiekaaDoor
