/- The law CoinAbout: the walk. -/
import Derived.Test.YtcfohdkdppiekaaWorks19
import Derived.Test.YtcfohdkdppiekaaWShort
import Derived.Test.YtcfohdkdppiekaaWFrame
import Derived.Test.YtcfohdkdppiekaaAbtEql
import Derived.Test.YtcfohdkdppiekaaWShaSum
import Derived.Test.YtcfohdkdppiekaaSpecNum
namespace Go.Proofs.Ytcfohdkdppiekaa
open Go.RowKit Go.Proofs Go
attribute [-go_sem] run_equalIn_agg
/-- a certificate's parts -/
def Abt.ps (t : Abt) : List (List UInt8) := [t.a, t.b, t.c, b8 t.x, b8 t.y, b8 t.z]
set_option maxRecDepth 100000 in
theorem sum19_any (l : List UInt8) (hl : l.length ≤ 100000000000) (w : World) : Calls Try.prog 106 #[.string ⟨l.toArray⟩] w fun e w' => e = .returned (.string ⟨(sha l).toArray⟩) ∧ Below w.heap.size w w' := by
  go_enter Try.func106, Try.ntmps106
  go_wp2_with fail
  refine (sum_any l (by omega) w).mono ?_
  rintro e w1 ⟨rfl, b1⟩
  go_wp2
  go_ret
  exact ⟨rfl, b1⟩
theorem alikeB (a b c d e f : List UInt8) (x y z m n o : Nat) (hx : x < 18446744073709551616) (hy : y < 18446744073709551616) (hz : z < 18446744073709551616) (hm : m < 18446744073709551616) (hn : n < 18446744073709551616) (ho : o < 18446744073709551616)
    (h1 : a.length ≤ 60) (h2 : b.length ≤ 60) (h3 : c.length ≤ 60) (h4 : d.length ≤ 60) (h5 : e.length ≤ 60) (h6 : f.length ≤ 60) :
    decide (frm tCoin [a, b, c, b8 x, b8 y, b8 z] = frm tCoin [d, e, f, b8 m, b8 n, b8 o]) = (decide (a = d) && (decide (b = e) && (decide (c = f) && ((x : Int) == m && ((y : Int) == n && (z : Int) == o))))) := by
  have hb8 : ∀ i j : Nat, i < 18446744073709551616 → j < 18446744073709551616 → b8 i = b8 j → i = j := fun i j hi hj h => by
    have := congrArg numb h
    rwa [numb_b8 _ hi, numb_b8 _ hj] at this
  rw [Bool.eq_iff_iff]
  simp only [decide_eq_true_eq, Bool.and_eq_true, beq_iff_eq]
  constructor
  · intro h
    rw [frm_ok ⟨by decide, by decide⟩, frm_ok ⟨by decide, by decide⟩] at h
    have h7 := (frm0_inj (by decide) (by decide) (by simp [b8_len]; omega) (by simp [b8_len]; omega) h).2
    simp only [List.cons.injEq, and_true] at h7
    obtain ⟨k1, k2, k3, k4, k5, k6⟩ := h7
    exact ⟨k1, k2, k3, by rw [hb8 _ _ hx hm k4], by rw [hb8 _ _ hy hn k5], by rw [hb8 _ _ hz ho k6]⟩
  · rintro ⟨rfl, rfl, rfl, k4, k5, k6⟩
    rw [Int.ofNat_inj.1 k4, Int.ofNat_inj.1 k5, Int.ofNat_inj.1 k6]
theorem soft_eqAbt {o : Oper} {a : Act} {W : World} (x y : Operand) (u : TypeId) (ho : o.op = .binOp .eql 125 x y u) (xs ys : Array Value) (hx : a.eval x = .agg xs) (hy : a.eval y = .agg ys) (B : Bool)
    (hg : Try.prog.eqGuardType Try.prog.depth 125 = false) (h : (Op.equalIn 10000 125 (.agg xs) (.agg ys)).run Try.prog W = .ok B W) : (execOp a.eval o).run Try.prog W = .ok (.value (.bool B)) W := by
  unfold execOp
  rw [ho]
  simp [hx, hy, run_eqGuard_agg _ _ _ _ _ _ _ hg, run_eql_struct, h]
set_option maxRecDepth 100000 in
set_option maxHeartbeats 4000000 in
theorem coinAbout_any (s t : Abt) (hs : s.ok) (ht : t.ok) (w : World) :
    Calls Try.prog 28 #[.agg s.cs.toArray, .agg t.cs.toArray] w fun e w' => e = .returned (.bool true) ∧ Below w.heap.size w w' := by
  obtain ⟨a, b, c, x, y, z⟩ := s
  obtain ⟨d, e', f, m, n, o⟩ := t
  have HS := hid hs
  have HT := hid ht
  clear hs ht
  unfold Abt.cs
  simp only
  go_enter Try.func28, Try.ntmps28
  go_wp2_with fail
  refine (works19_any _).mono ?_
  rintro e w1 ⟨rfl, b1⟩
  have P1 : Hid (arr w1 w.heap.size 125 (Abt.cs ⟨a, b, c, x, y, z⟩)) := hid (((arr.new w _ (Abt.cs ⟨a, b, c, x, y, z⟩)).alloc _).keep b1)
  have Q1 : Hid (arr w1 (w.heap.size + 1) 125 (Abt.cs ⟨d, e', f, m, n, o⟩)) := hid ((arr.newAt _ _ (Abt.cs ⟨d, e', f, m, n, o⟩) _ (by simp)).keep b1)
  have B1 : Hid (Below w.heap.size w w1) := hid (((((Below.refl _ _).alloc (Nat.le_refl _) _).alloc (by simp) _).trans (b1.mono (by simp; omega))))
  obtain ⟨p, hp⟩ : ∃ p, p = w.heap.size := ⟨_, rfl⟩
  obtain ⟨q, hq⟩ : ∃ q, q = w.heap.size + 1 := ⟨_, rfl⟩
  rw [← hp] at P1
  rw [← hq] at Q1
  rw [← hq, ← hp]
  have hpq : p ≠ q := by omega
  have hpw : w.heap.size ≤ p := by omega
  have hqw : w.heap.size ≤ q := by omega
  clear hp hq b1
  have lp := P1.out.lt
  have c0 := P1.out.cell 0 _ rfl
  have c1 := P1.out.cell 1 _ rfl
  have c2 := P1.out.cell 2 _ rfl
  have c3 := P1.out.cell 3 _ rfl
  have c4 := P1.out.cell 4 _ rfl
  have c5 := P1.out.cell 5 _ rfl
  go_wp2_with fail
  refine (short_any ⟨a, b, c, x, y, z⟩ HS.out w1).mono ?_
  rintro e w2 ⟨rfl, b2⟩
  have P2 := hid (P1.out.keep b2)
  have Q2 := hid (Q1.out.keep b2)
  have B2 := hid (below_all B1.out b2)
  clear b2 B1 P1 Q1 c0 c1 c2 c3 c4 c5 lp
  obtain ⟨s, hs⟩ : ∃ s : Abt, s = Abt.sh ⟨a, b, c, x, y, z⟩ := ⟨_, rfl⟩
  rw [← hs]
  obtain ⟨a', b', c', x', y', z'⟩ := s
  have hs' : (⟨a', b', c', x', y', z'⟩ : Abt).ok ∧ a'.length ≤ 60 ∧ b'.length ≤ 60 ∧ c'.length ≤ 60 := by
    obtain ⟨k1, k2, k3, k4, k5, k6⟩ := HS.out
    injection hs with h1 h2 h3 h4 h5 h6
    subst h1; subst h2; subst h3; subst h4; subst h5; subst h6
    simp only at k1 k2 k3 k4 k5 k6
    exact ⟨⟨by rw [List.length_take]; omega, by rw [List.length_take]; omega, by rw [List.length_take]; omega, k4, k5, k6⟩, by rw [List.length_take]; omega, by rw [List.length_take]; omega, by rw [List.length_take]; omega⟩
  have HS' := hid hs'
  clear hs hs' HS
  unfold Abt.cs
  simp only
  go_wp2_with (refine wpList_store_arr rfl 125 _ _ rfl p (Abt.cs ⟨a', b', c', x', y', z'⟩) rfl rfl _ _ P2.out (by kernel_rfl) rfl rfl ?_; intro w3 hw3; have P3 := hid (show arr w3 p _ _ from hw3 ▸ P2.out.row (Abt.cs ⟨a', b', c', x', y', z'⟩)); have Q3 := hid (show arr w3 q _ _ from hw3 ▸ Q2.out.rowOther (Ne.symm hpq) (Abt.cs ⟨a', b', c', x', y', z'⟩).toArray); have B3 := hid (show Below w.heap.size w w3 from hw3 ▸ below_setRow' B2.out hpw _); have d0 := Q3.out.cell 0 _ rfl; have d1 := Q3.out.cell 1 _ rfl; have d2 := Q3.out.cell 2 _ rfl; have d3 := Q3.out.cell 3 _ rfl; have d4 := Q3.out.cell 4 _ rfl; have d5 := Q3.out.cell 5 _ rfl; have lq := Q3.out.lt; clear hw3)
  refine (short_any ⟨d, e', f, m, n, o⟩ HT.out w3).mono ?_
  rintro e w4 ⟨rfl, b4⟩
  have P4 := hid (P3.out.keep b4)
  have Q4 := hid (Q3.out.keep b4)
  have B4 := hid (below_all B3.out b4)
  clear b4 B3 B2 P2 Q2 P3 Q3 d0 d1 d2 d3 d4 d5 lq
  obtain ⟨t, ht⟩ : ∃ s : Abt, s = Abt.sh ⟨d, e', f, m, n, o⟩ := ⟨_, rfl⟩
  rw [← ht]
  obtain ⟨d', e2, f', m', n', o'⟩ := t
  have ht' : (⟨d', e2, f', m', n', o'⟩ : Abt).ok ∧ d'.length ≤ 60 ∧ e2.length ≤ 60 ∧ f'.length ≤ 60 := by
    obtain ⟨k1, k2, k3, k4, k5, k6⟩ := HT.out
    injection ht with h1 h2 h3 h4 h5 h6
    subst h1; subst h2; subst h3; subst h4; subst h5; subst h6
    simp only at k1 k2 k3 k4 k5 k6
    exact ⟨⟨by rw [List.length_take]; omega, by rw [List.length_take]; omega, by rw [List.length_take]; omega, k4, k5, k6⟩, by rw [List.length_take]; omega, by rw [List.length_take]; omega, by rw [List.length_take]; omega⟩
  have HT' := hid ht'
  clear ht ht' HT
  unfold Abt.cs
  simp only
  go_wp2_with (refine wpList_store_arr rfl 125 _ _ rfl q (Abt.cs ⟨d', e2, f', m', n', o'⟩) rfl rfl _ _ Q4.out (by kernel_rfl) rfl rfl ?_; intro w5 hw5; have Q5 := hid (show arr w5 q _ _ from hw5 ▸ Q4.out.row (Abt.cs ⟨d', e2, f', m', n', o'⟩)); have P5 := hid (show arr w5 p _ _ from hw5 ▸ P4.out.rowOther hpq (Abt.cs ⟨d', e2, f', m', n', o'⟩).toArray); have B5 := hid (show Below w.heap.size w w5 from hw5 ▸ below_setRow' B4.out hqw _); clear hw5)
  refine wp_region_sched (fun W => arr W p 125 (Abt.cs ⟨a', b', c', x', y', z'⟩)) [(true, 0), (true, 1), (true, 2), (true, 3), (true, 4), (true, 5), (true, 6), (true, 7), (true, 8), (true, 10), (true, 11), (true, 12), (true, 14), (true, 15), (true, 16), (false, 9), (false, 13), (false, 17), (false, 18), (false, 19)] 20 rfl (by kernel_rfl) (by kernel_rfl) (by kernel_rfl) (by decide) rfl (by kernel_rfl) (fun o _ _ _ _ h => by cases o <;> exact h) (P5.out.keep (Below.refl _ _).drew) ?_
  have P60 := hid (P5.out.keep (Below.refl _ _).drew)
  have Q60 := hid (Q5.out.keep (Below.refl _ _).drew)
  have B60 := hid (B5.out.drew)
  clear P5 Q5 B5
  refine sched_soft rfl (by kernel_rfl) (v := .pointer (some ⟨p, 0, none⟩)) (fun W hW => (by have lw := hW.lt; go_simp)) ?_
  refine sched_soft rfl (by kernel_rfl) (v := .string ⟨a'.toArray⟩) (fun W hW => (by have cw := hW.cell 0 _ rfl; have lw := hW.lt; go_simp)) ?_
  refine sched_soft rfl (by kernel_rfl) (v := .pointer (some ⟨p, 1, none⟩)) (fun W hW => (by have lw := hW.lt; go_simp)) ?_
  refine sched_soft rfl (by kernel_rfl) (v := .string ⟨b'.toArray⟩) (fun W hW => (by have cw := hW.cell 1 _ rfl; have lw := hW.lt; go_simp)) ?_
  refine sched_soft rfl (by kernel_rfl) (v := .pointer (some ⟨p, 2, none⟩)) (fun W hW => (by have lw := hW.lt; go_simp)) ?_
  refine sched_soft rfl (by kernel_rfl) (v := .string ⟨c'.toArray⟩) (fun W hW => (by have cw := hW.cell 2 _ rfl; have lw := hW.lt; go_simp)) ?_
  refine sched_soft rfl (by kernel_rfl) (v := .pointer (some ⟨p, 3, none⟩)) (fun W hW => (by have lw := hW.lt; go_simp)) ?_
  refine sched_soft rfl (by kernel_rfl) (v := .pointer (some ⟨p, 3, none⟩)) (fun W hW => (by have lw := hW.lt; go_simp)) ?_
  refine sched_soft rfl (by kernel_rfl) (v := .int .u64 (x' : Int)) (fun W hW => (by have cw := hW.cell 3 _ rfl; have lw := hW.lt; go_simp)) ?_
  refine sched_soft rfl (by kernel_rfl) (v := .pointer (some ⟨p, 3, none⟩)) (fun W hW => (by have lw := hW.lt; go_simp)) ?_
  refine sched_soft rfl (by kernel_rfl) (v := .pointer (some ⟨p, 4, none⟩)) (fun W hW => (by have lw := hW.lt; go_simp)) ?_
  refine sched_soft rfl (by kernel_rfl) (v := .int .u64 (y' : Int)) (fun W hW => (by have cw := hW.cell 4 _ rfl; have lw := hW.lt; go_simp)) ?_
  refine sched_soft rfl (by kernel_rfl) (v := .pointer (some ⟨p, 3, none⟩)) (fun W hW => (by have lw := hW.lt; go_simp)) ?_
  refine sched_soft rfl (by kernel_rfl) (v := .pointer (some ⟨p, 5, none⟩)) (fun W hW => (by have lw := hW.lt; go_simp)) ?_
  refine sched_soft rfl (by kernel_rfl) (v := .int .u64 (z' : Int)) (fun W hW => (by have cw := hW.cell 5 _ rfl; have lw := hW.lt; go_simp)) ?_
  refine sched_op rfl (by kernel_rfl) ?_
  go_simp
  refine (num_nat x' (by have := HS'.out.1.x; simp only at this; omega) _).mono ?_
  rintro e u61 ⟨rfl, bb⟩
  have P61 := hid (P60.out.keep bb)
  have Q61 := hid (Q60.out.keep bb)
  have B61 := hid (below_all B60.out bb)
  clear bb P60 Q60 B60
  refine ⟨P61.out, ?_⟩
  refine sched_op rfl (by kernel_rfl) ?_
  go_simp
  refine (num_nat y' (by have := HS'.out.1.y; simp only at this; omega) _).mono ?_
  rintro e u62 ⟨rfl, bb⟩
  have P62 := hid (P61.out.keep bb)
  have Q62 := hid (Q61.out.keep bb)
  have B62 := hid (below_all B61.out bb)
  clear bb P61 Q61 B61
  refine ⟨P62.out, ?_⟩
  refine sched_op rfl (by kernel_rfl) ?_
  go_simp
  refine (num_nat z' (by have := HS'.out.1.z; simp only at this; omega) _).mono ?_
  rintro e u63 ⟨rfl, bb⟩
  have P63 := hid (P62.out.keep bb)
  have Q63 := hid (Q62.out.keep bb)
  have B63 := hid (below_all B62.out bb)
  clear bb P62 Q62 B62
  refine ⟨P63.out, ?_⟩
  refine sched_op rfl (by kernel_rfl) ?_
  go_simp
  have hal6 : Below u63.heap.size u63 (u63.alloc (.cells #[.string ⟨a'.toArray⟩, .string ⟨b'.toArray⟩, .string ⟨c'.toArray⟩, .string ⟨(b8 x').toArray⟩, .string ⟨(b8 y').toArray⟩, .string ⟨(b8 z').toArray⟩] 9)) := (Below.refl _ _).alloc (Nat.le_refl _) _
  have P64 := hid (P63.out.keep hal6)
  have Q64 := hid (Q63.out.keep hal6)
  have B64 := hid (below_all B63.out hal6)
  clear hal6 P63 Q63 B63
  refine ⟨P64.out, ?_⟩
  refine sched_op rfl (by kernel_rfl) ?_
  go_simp
  refine (frame_any tCoin [a', b', c', b8 x', b8 y', b8 z'] _ _ (strsAt.lit' u63 [a', b', c', b8 x', b8 y', b8 z'] (by have := HS'.out.2; simp [b8_len]; omega) (by simp) 9) (by decide) (by have := HS'.out.2; simp [fparts, b8_len]; omega) (by have := HS'.out.2; simp [b8_len]; omega)).mono ?_
  rintro e u65 ⟨rfl, bb⟩
  have P65 := hid (P64.out.keep bb)
  have Q65 := hid (Q64.out.keep bb)
  have B65 := hid (below_all B64.out bb)
  clear bb P64 Q64 B64
  refine ⟨P65.out, ?_⟩
  obtain ⟨FS, hFS⟩ : ∃ F, F = frm tCoin [a', b', c', b8 x', b8 y', b8 z'] := ⟨_, rfl⟩
  rw [← hFS]
  have HFS := hid hFS
  clear hFS
  refine sched_done ?_
  go_wp2_with fail
  refine wp_region_sched (fun W => arr W q 125 (Abt.cs ⟨d', e2, f', m', n', o'⟩)) [(true, 0), (true, 1), (true, 2), (true, 3), (true, 4), (true, 5), (true, 6), (true, 7), (true, 8), (true, 10), (true, 11), (true, 12), (true, 14), (true, 15), (true, 16), (false, 9), (false, 13), (false, 17), (false, 18), (false, 19)] 20 rfl (by kernel_rfl) (by kernel_rfl) (by kernel_rfl) (by decide) rfl (by kernel_rfl) (fun o _ _ _ _ h => by cases o <;> exact h) (Q65.out.keep (Below.refl _ _).drew) ?_
  have P70 := hid (P65.out.keep (Below.refl _ _).drew)
  have Q70 := hid (Q65.out.keep (Below.refl _ _).drew)
  have B70 := hid (B65.out.drew)
  clear P65 Q65 B65
  refine sched_soft rfl (by kernel_rfl) (v := .pointer (some ⟨q, 0, none⟩)) (fun W hW => (by have lw := hW.lt; go_simp)) ?_
  refine sched_soft rfl (by kernel_rfl) (v := .string ⟨d'.toArray⟩) (fun W hW => (by have cw := hW.cell 0 _ rfl; have lw := hW.lt; go_simp)) ?_
  refine sched_soft rfl (by kernel_rfl) (v := .pointer (some ⟨q, 1, none⟩)) (fun W hW => (by have lw := hW.lt; go_simp)) ?_
  refine sched_soft rfl (by kernel_rfl) (v := .string ⟨e2.toArray⟩) (fun W hW => (by have cw := hW.cell 1 _ rfl; have lw := hW.lt; go_simp)) ?_
  refine sched_soft rfl (by kernel_rfl) (v := .pointer (some ⟨q, 2, none⟩)) (fun W hW => (by have lw := hW.lt; go_simp)) ?_
  refine sched_soft rfl (by kernel_rfl) (v := .string ⟨f'.toArray⟩) (fun W hW => (by have cw := hW.cell 2 _ rfl; have lw := hW.lt; go_simp)) ?_
  refine sched_soft rfl (by kernel_rfl) (v := .pointer (some ⟨q, 3, none⟩)) (fun W hW => (by have lw := hW.lt; go_simp)) ?_
  refine sched_soft rfl (by kernel_rfl) (v := .pointer (some ⟨q, 3, none⟩)) (fun W hW => (by have lw := hW.lt; go_simp)) ?_
  refine sched_soft rfl (by kernel_rfl) (v := .int .u64 (m' : Int)) (fun W hW => (by have cw := hW.cell 3 _ rfl; have lw := hW.lt; go_simp)) ?_
  refine sched_soft rfl (by kernel_rfl) (v := .pointer (some ⟨q, 3, none⟩)) (fun W hW => (by have lw := hW.lt; go_simp)) ?_
  refine sched_soft rfl (by kernel_rfl) (v := .pointer (some ⟨q, 4, none⟩)) (fun W hW => (by have lw := hW.lt; go_simp)) ?_
  refine sched_soft rfl (by kernel_rfl) (v := .int .u64 (n' : Int)) (fun W hW => (by have cw := hW.cell 4 _ rfl; have lw := hW.lt; go_simp)) ?_
  refine sched_soft rfl (by kernel_rfl) (v := .pointer (some ⟨q, 3, none⟩)) (fun W hW => (by have lw := hW.lt; go_simp)) ?_
  refine sched_soft rfl (by kernel_rfl) (v := .pointer (some ⟨q, 5, none⟩)) (fun W hW => (by have lw := hW.lt; go_simp)) ?_
  refine sched_soft rfl (by kernel_rfl) (v := .int .u64 (o' : Int)) (fun W hW => (by have cw := hW.cell 5 _ rfl; have lw := hW.lt; go_simp)) ?_
  refine sched_op rfl (by kernel_rfl) ?_
  go_simp
  refine (num_nat m' (by have := HT'.out.1.x; simp only at this; omega) _).mono ?_
  rintro e u71 ⟨rfl, bb⟩
  have P71 := hid (P70.out.keep bb)
  have Q71 := hid (Q70.out.keep bb)
  have B71 := hid (below_all B70.out bb)
  clear bb P70 Q70 B70
  refine ⟨Q71.out, ?_⟩
  refine sched_op rfl (by kernel_rfl) ?_
  go_simp
  refine (num_nat n' (by have := HT'.out.1.y; simp only at this; omega) _).mono ?_
  rintro e u72 ⟨rfl, bb⟩
  have P72 := hid (P71.out.keep bb)
  have Q72 := hid (Q71.out.keep bb)
  have B72 := hid (below_all B71.out bb)
  clear bb P71 Q71 B71
  refine ⟨Q72.out, ?_⟩
  refine sched_op rfl (by kernel_rfl) ?_
  go_simp
  refine (num_nat o' (by have := HT'.out.1.z; simp only at this; omega) _).mono ?_
  rintro e u73 ⟨rfl, bb⟩
  have P73 := hid (P72.out.keep bb)
  have Q73 := hid (Q72.out.keep bb)
  have B73 := hid (below_all B72.out bb)
  clear bb P72 Q72 B72
  refine ⟨Q73.out, ?_⟩
  refine sched_op rfl (by kernel_rfl) ?_
  go_simp
  have hal7 : Below u73.heap.size u73 (u73.alloc (.cells #[.string ⟨d'.toArray⟩, .string ⟨e2.toArray⟩, .string ⟨f'.toArray⟩, .string ⟨(b8 m').toArray⟩, .string ⟨(b8 n').toArray⟩, .string ⟨(b8 o').toArray⟩] 9)) := (Below.refl _ _).alloc (Nat.le_refl _) _
  have P74 := hid (P73.out.keep hal7)
  have Q74 := hid (Q73.out.keep hal7)
  have B74 := hid (below_all B73.out hal7)
  clear hal7 P73 Q73 B73
  refine ⟨Q74.out, ?_⟩
  refine sched_op rfl (by kernel_rfl) ?_
  go_simp
  refine (frame_any tCoin [d', e2, f', b8 m', b8 n', b8 o'] _ _ (strsAt.lit' u73 [d', e2, f', b8 m', b8 n', b8 o'] (by have := HT'.out.2; simp [b8_len]; omega) (by simp) 9) (by decide) (by have := HT'.out.2; simp [fparts, b8_len]; omega) (by have := HT'.out.2; simp [b8_len]; omega)).mono ?_
  rintro e u75 ⟨rfl, bb⟩
  have P75 := hid (P74.out.keep bb)
  have Q75 := hid (Q74.out.keep bb)
  have B75 := hid (below_all B74.out bb)
  clear bb P74 Q74 B74
  refine ⟨Q75.out, ?_⟩
  obtain ⟨FT, hFT⟩ : ∃ F, F = frm tCoin [d', e2, f', b8 m', b8 n', b8 o'] := ⟨_, rfl⟩
  rw [← hFT]
  have HFT := hid hFT
  clear hFT
  have heq := fun W : World => eqAbt a' b' c' d' e2 f' (x' : Int) (y' : Int) (z' : Int) (m' : Int) (n' : Int) (o' : Int) W
  have hsf : decide (FS = FT) = (decide (a' = d') && (decide (b' = e2) && (decide (c' = f') && ((x' : Int) == m' && ((y' : Int) == n' && (z' : Int) == o'))))) := by
    rw [HFS.out, HFT.out]
    have s1 := HS'.out
    have t1 := HT'.out
    exact alikeB _ _ _ _ _ _ _ _ _ _ _ _ s1.1.x s1.1.y s1.1.z t1.1.x t1.1.y t1.1.z s1.2.1 s1.2.2.1 s1.2.2.2 t1.2.1 t1.2.2.1 t1.2.2.2
  obtain ⟨B, hB⟩ : ∃ B, B = (decide (a' = d') && (decide (b' = e2) && (decide (c' = f') && ((x' : Int) == m' && ((y' : Int) == n' && (z' : Int) == o'))))) := ⟨_, rfl⟩
  rw [← hB] at heq hsf
  clear hB
  have c0 := P75.out.cell 0 _ rfl
  have c1 := P75.out.cell 1 _ rfl
  have c2 := P75.out.cell 2 _ rfl
  have c3 := P75.out.cell 3 _ rfl
  have c4 := P75.out.cell 4 _ rfl
  have c5 := P75.out.cell 5 _ rfl
  have d0 := Q75.out.cell 0 _ rfl
  have d1 := Q75.out.cell 1 _ rfl
  have d2 := Q75.out.cell 2 _ rfl
  have d3 := Q75.out.cell 3 _ rfl
  have d4 := Q75.out.cell 4 _ rfl
  have d5 := Q75.out.cell 5 _ rfl
  have lp := P75.out.lt
  have lq := Q75.out.lt
  have hsf2 : (FS == FT) = B := by rw [← hsf, Bool.eq_iff_iff]; simp
  have hB2 : (B != B) = false := by simp
  refine sched_done ?_
  go_wp2_with fail
  refine (cseed_any a' b' c' (by have := HS'.out.2; omega) (by have := HS'.out.2; omega) (by have := HS'.out.2; omega) x' y' z' (by have := HS'.out.1.x; simpa using this) (by have := HS'.out.1.y; simpa using this) (by have := HS'.out.1.z; simpa using this) u75).mono ?_
  rintro e u81 ⟨rfl, bb⟩
  have Q81 := hid (Q75.out.keep bb)
  have B81 := hid (below_all B75.out bb)
  clear bb P75 Q75 B75 c0 c1 c2 c3 c4 c5 d0 d1 d2 d3 d4 d5 lp lq
  obtain ⟨HH, hHH⟩ : ∃ HH, HH = hsh tCoin [a', b', c', b8 x', b8 y', b8 z'] := ⟨_, rfl⟩
  have hse : sha FS = HH := by rw [hHH, HFS.out, hsh_ok ⟨by decide, by decide⟩, frm_ok ⟨by decide, by decide⟩]
  rw [← hHH]
  clear hHH
  go_wp2_with fail
  refine (sum19_any FS (by rw [HFS.out, frm_ok ⟨by decide, by decide⟩]; unfold frm0; have := HS'.out.2; simp [fparts, b8_len, tCoin]; omega) u81).mono ?_
  rintro e u82 ⟨rfl, bb⟩
  rw [hse]
  have Q82 := hid (Q81.out.keep bb)
  have B82 := hid (below_all B81.out bb)
  clear bb Q81 B81 hse
  have d0 := Q82.out.cell 0 _ rfl
  have d1 := Q82.out.cell 1 _ rfl
  have d2 := Q82.out.cell 2 _ rfl
  have d3 := Q82.out.cell 3 _ rfl
  have d4 := Q82.out.cell 4 _ rfl
  have d5 := Q82.out.cell 5 _ rfl
  have lq := Q82.out.lt
  go_wp2_with fail
  refine (cseed_any d' e2 f' (by have := HT'.out.2; omega) (by have := HT'.out.2; omega) (by have := HT'.out.2; omega) m' n' o' (by have := HT'.out.1.x; simpa using this) (by have := HT'.out.1.y; simpa using this) (by have := HT'.out.1.z; simpa using this) u82).mono ?_
  rintro e u83 ⟨rfl, bb⟩
  have B83 := hid (below_all B82.out bb)
  clear bb Q82 B82 d0 d1 d2 d3 d4 d5 lq
  obtain ⟨KK, hKK⟩ : ∃ KK, KK = hsh tCoin [d', e2, f', b8 m', b8 n', b8 o'] := ⟨_, rfl⟩
  have hte : sha FT = KK := by rw [hKK, HFT.out, hsh_ok ⟨by decide, by decide⟩, frm_ok ⟨by decide, by decide⟩]
  rw [← hKK]
  clear hKK
  go_wp2_with fail
  refine (sum19_any FT (by rw [HFT.out, frm_ok ⟨by decide, by decide⟩]; unfold frm0; have := HT'.out.2; simp [fparts, b8_len, tCoin]; omega) u83).mono ?_
  rintro e u84 ⟨rfl, bb⟩
  rw [hte]
  have B84 := hid (below_all B83.out bb)
  clear bb B83 hte
  go_wp2
  go_ret
  exact ⟨rfl, B84.out⟩
theorem coinAbout_row (s : Abt) (v : Value) (hs : s.ok ∧ v = .agg s.cs.toArray) (t : Abt) (u : Value) (ht : t.ok ∧ u = .agg t.cs.toArray) (w : World) :
    Calls Try.prog 28 #[v, u] w fun e w' => e = .returned (.bool true) ∧ Below w.heap.size w w' := by
  obtain ⟨hs, rfl⟩ := hs
  obtain ⟨ht, rfl⟩ := ht
  exact coinAbout_any s t hs ht w
end Go.Proofs.Ytcfohdkdppiekaa
