/- A digest's digits, the document's answer: contract. -/
import Derived.Test.YtcfohdkdppiekaaWDigits
import Derived.Test.YtcfohdkdppiekaaRowOps
namespace Go.Proofs.Ytcfohdkdppiekaa
open Go Go.RowKit Go.Proofs
def ownI (w : World) (base : Nat) (v : Value) (l : List Nat) : Prop := w.ownsRow base 3 1 v l.length (ics l)
theorem info_i64 : (Try.prog.info? 3).map (fun i => (i.zero, i.size, i.bytes)) = some (some (.int .i64 0), 1, 8) := by kernel_rfl
theorem ics_one (q : List Nat) : ∀ u ∈ ics q, u.oneCell' = true := by
  intro u hu
  obtain ⟨c, _, rfl⟩ := List.mem_map.1 hu
  rfl
theorem ownI_append {ops : Array Oper} {rest : List Oper} {o : Oper} {a : Act} {w : World} {Q : Exit → Act → World → Prop} (hgd : o.guard = none) (s x : Operand)
    (ho : o.op = .call { callee := .builtin .append, args := #[s, x], argTypes := #[95, 95] }) (base : Nat) (v : Value) (l q : List Nat) (hs : a.eval s = v) (hown : ownI w base v l)
    (b n : Nat) (hn : n = q.length) (hx : a.eval x = .slice (some ⟨b, 0, none⟩) n n) (hq : arr w b 3 (ics q)) (hlen : l.length + q.length ≤ 1000000) (hbase : base ≤ w.heap.size)
    (h : ∀ v' w', ownI w' base v' (l ++ q) → w.grownBy w' v.ownBlock → wpList Try.prog ops Q rest (a.put o.dst v') w') : wpList Try.prog ops Q (o :: rest) a w := by
  obtain ⟨i0, hi, hz0, hz1, hz2⟩ := info_parts info_i64
  subst hn
  refine wpList_append_own w hgd s x 95 ho base 3 i0 (.int .i64 0) 1 8 Try.underlying95 hi hz0 hz1 hz2 rfl (by decide) v l.length (ics l) hs hown ⟨b, 0, none⟩ q.length q.length (ics q) hx (by rw [ics_len, Nat.mul_one]) ?_ (ics_one q) ?_ ?_ hbase ?_
  · intro j u hj
    have e : (⟨b, 0, none⟩ : Addr).add j = ⟨b, j, none⟩ := by unfold Addr.add; split <;> simp_all
    rw [e]; exact hq.cell j u hj
  · unfold maxLen; omega
  · omega
  · intro v' w' h1 h2 _
    refine h v' w' ?_ h2
    unfold ownI
    rw [List.length_append]
    have e : ics (l ++ q) = ics l ++ ics q := by simp [ics]
    rw [e]; exact h1
theorem ownI.digs {w : World} {base : Nat} {v : Value} {l : List Nat} (h : ownI w base v l) (hl : 0 < l.length) : ∃ b c, v = .slice (some ⟨b, 0, none⟩) l.length c ∧ digsAt w b l c := by
  rcases h.2 with ⟨rfl, hn⟩ | ⟨g, cap, cur, rfl, _, hg, hc, _, hcs, htk⟩
  · omega
  · refine ⟨g, cap, rfl, (Array.getElem?_eq_some_iff.1 hg).1, hc, fun i hi => ?_⟩
    rw [cell_of_row w g i cur _ _ hg, ← ics_get l i hi, ← htk, Nat.mul_one, List.getElem?_take_of_lt hi]
    simp
/-- the first k digits -/
def dk (d : List UInt8) (k : Nat) : List Nat := (List.range k).map (dg d)
theorem dk_len (d : List UInt8) (k : Nat) : (dk d k).length = k := by simp [dk]
theorem dk_two (d : List UInt8) (k : Nat) : dk d (2 * (k + 1)) = dk d (2 * k) ++ [(d.getD k 0).toNat / 16, (d.getD k 0).toNat % 16] := by
  have e1 : dg d (2 * k) = (d.getD k 0).toNat / 16 := by rw [dg_two d _ (by omega), show 2 * k / 2 = k by omega]
  have e2 : dg d (2 * k + 1) = (d.getD k 0).toNat % 16 := by rw [dg_odd d _ (by omega), show (2 * k + 1) / 2 = k by omega]
  unfold dk
  rw [show 2 * (k + 1) = 2 * k + 1 + 1 by omega, List.range_succ, List.range_succ, List.map_append, List.map_append, ← e1, ← e2, List.append_assoc]
  rfl
theorem lack_two (d : List UInt8) (k : Nat) : lack d (2 * (k + 1)) = lack d (2 * k) + (15 - (d.getD k 0).toNat / 16) + (15 - (d.getD k 0).toNat % 16) := by
  rw [show 2 * (k + 1) = 2 * k + 1 + 1 by omega, lack, lack, dg_two d _ (by omega), dg_odd d _ (by omega), show 2 * k / 2 = k by omega, show (2 * k + 1) / 2 = k by omega]
set_option maxRecDepth 100000 in
set_option maxHeartbeats 4000000 in
theorem refDigits_any (d : List UInt8) (hd : d.length = 32) (w : World) :
    Calls Try.prog 126 #[.string ⟨d.toArray⟩] w fun e w' => ∃ b c, e = .returned (.slice (some ⟨b, 0, none⟩) 67 c) ∧ digsAt w' b (digs d) c ∧ Below w.heap.size w w' := by
  have hdI : (d.length : Int) = 32 := by omega
  have HD := hid hd
  clear hd
  go_enter Try.func126, Try.ntmps126
  go_wp2_with fail
  go_loopw [3, 4, 5] (fun u s i wr => ∃ k : Nat, k ≤ 32 ∧ i = .int .i64 k ∧ s = .int .i64 (lack d (2 * k) : Nat) ∧ ownI wr w.heap.size u (dk d (2 * k)) ∧ Below w.heap.size w wr) (fun _ _ i _ => 32 - (intOf i).toNat)
  case atStart => exact ⟨0, by omega, rfl, rfl, World.ownsRow_nil _ _ _ _, Below.refl _ _⟩
  case round =>
    obtain ⟨k, hk, rfl, rfl, ho, hbel⟩ := hrel
    have HO := hid ho
    have HB := hid hbel
    clear ho hbel
    by_cases hlk : k < 32
    · have hlk' : (k : Int) < 32 := by omega
      have hk2 : k < d.length := by have := HD.out; omega
      obtain ⟨y, hy⟩ : ∃ y : UInt8, y = d.getD k 0 := ⟨_, rfl⟩
      have hyy : (⟨d.toArray⟩ : ByteArray)[k]'(hk2) = y := by rw [hy, List.getD_eq_getElem?_getD, List.getElem?_eq_getElem hk2]; rfl
      have hlt := y.toNat_lt
      obtain ⟨h, hh⟩ : ∃ h, h = y.toNat / 16 := ⟨_, rfl⟩
      obtain ⟨l, hl⟩ : ∃ l, l = y.toNat % 16 := ⟨_, rfl⟩
      obtain ⟨q, hq⟩ : ∃ q, q = lack d (2 * k) := ⟨_, rfl⟩
      have hq960 : q ≤ 960 := by have := lack_le d (2 * k); omega
      have e1 := dk_two d k
      have e2 := lack_two d k
      rw [← hy, ← hh, ← hl] at e1 e2
      rw [← hq] at e2
      rw [← hq]
      have hhI : (y.toNat : Int) / 16 = (h : Int) := by omega
      have hlI : (y.toNat : Int) % 16 = (l : Int) := by omega
      have hh15 : h ≤ 15 := by omega
      have hl15 : l ≤ 15 := by omega
      have hdl := dk_len d (2 * k)
      have E1 := hid e1
      have E2 := hid e2
      have HDL := hid hdl
      clear hy hh hl hq e1 e2 hdl hlt
      go_wp2_with fail
      refine wp_region_sq (fun W' => W' = wr.drew) [(true, 0), (true, 1), (true, 2), (true, 3), (true, 4), (true, 5), (true, 6), (true, 7), (true, 8), (true, 9), (true, 10)] 11 rfl (by kernel_rfl) (by kernel_rfl) (by kernel_rfl) (by decide) rfl (by kernel_rfl) rfl ?_
      refine sq_soft rfl (by kernel_rfl) (fun W hW => (by subst hW; go_simp; try rfl)) ?_; go_frame
      refine sq_soft rfl (by kernel_rfl) (fun W hW => (by subst hW; go_simp; try rfl)) ?_; go_frame
      refine sq_soft rfl (by kernel_rfl) (fun W hW => (by subst hW; go_simp; try rfl)) ?_; go_frame
      refine sq_soft rfl (by kernel_rfl) (fun W hW => (by subst hW; go_simp; try rfl)) ?_; go_frame
      refine sq_soft rfl (by kernel_rfl) (fun W hW => (by subst hW; go_simp; try rfl)) ?_; go_frame
      refine sq_soft rfl (by kernel_rfl) (fun W hW => (by subst hW; go_simp; try rfl)) ?_; go_frame
      refine sq_soft rfl (by kernel_rfl) (fun W hW => (by subst hW; go_simp; try rfl)) ?_; go_frame
      refine sq_soft rfl (by kernel_rfl) (fun W hW => (by subst hW; go_simp; try rfl)) ?_; go_frame
      refine sq_soft rfl (by kernel_rfl) (fun W hW => (by subst hW; go_simp; try rfl)) ?_; go_frame
      refine sq_soft rfl (by kernel_rfl) (fun W hW => (by subst hW; go_simp; try rfl)) ?_; go_frame
      refine sq_soft rfl (by kernel_rfl) (fun W hW => (by subst hW; go_simp; try rfl)) ?_; go_frame
      refine sched_done ?_
      have O3 := hid (row_below HO.out (Below.refl wr.heap.size wr).drew)
      have B3 := hid HB.out.drew
      clear HO HB
      generalize World.drew wr = W3 at O3 B3 ⊢
      have hal : Below W3.heap.size W3 (W3.alloc (.cells #[.int .i64 (h : Int), .int .i64 (l : Int)] 3)) := (Below.refl _ _).alloc (Nat.le_refl _) _
      have O4 := hid (row_below O3.out hal)
      have B4 := hid (below_all B3.out hal)
      have N4 := hid (arr.new W3 3 (ics [h, l]))
      clear hal
      go_wp2_with ((at_builtin; go_must (refine ownI_append rfl _ _ rfl w.heap.size _ (dk d (2 * k)) [h, l] rfl O4.out W3.heap.size 2 rfl rfl N4.out (by have h := HDL.out; rw [h]; simp; omega) B4.out.size ?_); intro v7 w7 ho7 hg7; have O7 := hid ho7; have G7 := hid hg7; clear ho7 hg7))
      go_roundw
      case rel => exact ⟨k + 1, by omega, by go_num, by rw [E2.out]; go_num, by rw [E1.out]; exact O7.out, B4.out.grown G7.out B4.out.size (fun j hj => (row_lt O4.out j hj).1)⟩
      case measure => simp [intOf]; omega
    · obtain rfl : k = 32 := by omega
      obtain ⟨q, hq⟩ : ∃ q, q = lack d 64 := ⟨_, rfl⟩
      rw [show 2 * 32 = 64 from rfl] at *
      rw [← hq]
      have hq960 : q ≤ 960 := by have := lack_le d 64; omega
      obtain ⟨a1, h1⟩ : ∃ a, a = q / 256 := ⟨_, rfl⟩
      obtain ⟨a2, h2⟩ : ∃ a, a = q / 16 % 16 := ⟨_, rfl⟩
      obtain ⟨a3, h3⟩ : ∃ a, a = q % 16 := ⟨_, rfl⟩
      have hI1 : (q : Int) / 256 = (a1 : Int) := by omega
      have hI2 : (q : Int) / 16 % 16 = (a2 : Int) := by omega
      have hI3 : (q : Int) % 16 = (a3 : Int) := by omega
      have e : dk d 64 ++ [a1, a2, a3] = digs d := by rw [h1, h2, h3, hq]; rfl
      have E := hid e
      have hal : Below wr.heap.size wr (wr.alloc (.cells #[.int .i64 (a1 : Int), .int .i64 (a2 : Int), .int .i64 (a3 : Int)] 3)) := (Below.refl _ _).alloc (Nat.le_refl _) _
      have O4 := hid (row_below HO.out hal)
      have B4 := hid (below_all HB.out hal)
      have N4 := hid (arr.new wr 3 (ics [a1, a2, a3]))
      have HDL := hid (dk_len d 64)
      clear hal hq h1 h2 h3 e HO HB
      go_wp2_with ((at_builtin; go_must (refine ownI_append rfl _ _ rfl w.heap.size _ (dk d 64) [a1, a2, a3] rfl O4.out wr.heap.size 3 rfl rfl N4.out (by have h := HDL.out; rw [h]; simp) B4.out.size ?_); intro v7 w7 ho7 hg7; have O7 := hid ho7; have G7 := hid hg7; clear ho7 hg7))
      go_ret
      have O8 := O7.out
      rw [E.out] at O8
      obtain ⟨b, c, rfl, hdig⟩ := O8.digs (by rw [digs_len]; omega)
      rw [digs_len]
      exact ⟨b, c, rfl, hdig, B4.out.grown G7.out B4.out.size (fun j hj => (row_lt O4.out j hj).1)⟩
end Go.Proofs.Ytcfohdkdppiekaa
