/- A row of the call's own that begins anywhere within its block; append to it. -/
import Derived.Test.YtcfohdkdppiekaaRowOps
import Derived.Maps.AppendAt
import Derived.ArgAppend
namespace Go.Proofs.Ytcfohdkdppiekaa
open Go Go.RowKit
section
variable {P : Program} {w w' a : World} {base E size n : Nat} {v : Value} {xs : List Value} {b g : Nat} {T : TypeId} {ys : List Value}
/-- v is n elements, the cells xs, in a block of the call's own -/
def rowAt (w : World) (base : Nat) (E : TypeId) (size : Nat) (v : Value) (n : Nat) (xs : List Value) : Prop :=
  xs.length = n * size ∧ ((v = .slice none 0 0 ∧ n = 0) ∨
    ∃ b off cap cur, v = .slice (some ⟨b, off, none⟩) n cap ∧ base ≤ b ∧ arr w b E cur ∧ n ≤ cap ∧ cap ≤ maxLen ∧ off + cap * size = cur.length ∧ ∀ j, j < n * size → cur[off + j]? = xs[j]?)
theorem rowAt.nil (w : World) (base : Nat) (E : TypeId) (size : Nat) : rowAt w base E size (.slice none 0 0) 0 [] := ⟨by simp, Or.inl ⟨rfl, rfl⟩⟩
theorem rowAt.form (h : rowAt w base E size v n xs) : ∃ A c, v = .slice A n c ∧ n ≤ c := by
  rcases h.2 with ⟨rfl, rfl⟩ | ⟨b, off, cap, cur, rfl, _, _, hc, _⟩
  · exact ⟨_, _, rfl, Nat.le_refl _⟩
  · exact ⟨_, _, rfl, hc⟩
theorem rowAt.block (h : rowAt w base E size v n xs) (k : Nat) (hk : v.ownBlock = some k) : base ≤ k ∧ k < w.heap.size := by
  rcases h.2 with ⟨rfl, rfl⟩ | ⟨b, off, cap, cur, rfl, hb, ha, _⟩
  · cases hk
  · simp only [Value.ownBlock, Option.some.injEq] at hk
    subst hk
    exact ⟨hb, ha.lt⟩
theorem rowAt.at (h : rowAt w base E size v n xs) (hn : 0 < n) : ∃ b off cap, v = .slice (some ⟨b, off, none⟩) n cap ∧ n ≤ cap ∧ base ≤ b ∧ b < w.heap.size ∧ (∀ j x, xs[j]? = some x → w.cell? ⟨b, off + j, none⟩ = some x) ∧ cap ≤ maxLen := by
  rcases h.2 with ⟨rfl, rfl⟩ | ⟨b, off, cap, cur, rfl, hb, ha, hc, hcm, _, hx⟩
  · omega
  · refine ⟨b, off, cap, rfl, hc, hb, ha.lt, fun j x hj => ha.cell _ _ ?_, hcm⟩
    have hlt : j < n * size := by rw [← h.1]; exact (List.getElem?_eq_some_iff.1 hj).1
    rw [hx j hlt, hj]
theorem rowAt.kept {r : Option Nat} (h : rowAt w base E size v n xs) (hg : w.grownBy w' r) (hr : r = none ∨ v.ownBlock ≠ r) : rowAt w' base E size v n xs := by
  refine ⟨h.1, ?_⟩
  rcases h.2 with ⟨rfl, rfl⟩ | ⟨b, off, cap, cur, rfl, hb, ha, rest⟩
  · exact Or.inl ⟨rfl, rfl⟩
  · refine Or.inr ⟨b, off, cap, cur, rfl, hb, ?_, rest⟩
    have := ha.lt
    unfold Go.Proofs.Ytcfohdkdppiekaa.arr at *
    rw [hg.block b this ?_]; exact ha
    rcases hr with rfl | hr
    · simp
    · exact fun e => hr (by rw [← e]; rfl)
theorem rowAt.keep (h : rowAt w base E size v n xs) (hb : Below w.heap.size w w') : rowAt w' base E size v n xs :=
  h.kept (r := none) ⟨hb.os, hb.tape, hb.output, hb.size, fun k hk _ => hb.block k hk⟩ (Or.inl rfl)
theorem rowAt.ne (h : rowAt w base E size v n xs) (ha : arr w b T ys) (hT : T ≠ E) : v.ownBlock ≠ some b := by
  rcases h.2 with ⟨rfl, _⟩ | ⟨k, off, cap, cur, rfl, _, hg, _⟩
  · simp [Value.ownBlock]
  · intro e
    simp only [Value.ownBlock, Option.some.injEq] at e
    subst e
    unfold Go.Proofs.Ytcfohdkdppiekaa.arr at ha hg
    rw [hg] at ha
    simp only [Option.some.injEq, Obj.cells.injEq] at ha
    exact hT ha.2.1.symm
theorem arr_rowAt (ha : arr w b T ys) (h : rowAt w base E size v n xs) (hg : w.grownBy w' v.ownBlock) (hT : T ≠ E) : arr w' b T ys := by
  have := h.ne ha hT
  unfold Go.Proofs.Ytcfohdkdppiekaa.arr at *
  rw [hg.block b (Array.getElem?_eq_some_iff.1 ha).1 (fun e => this e.symm)]; exact ha
theorem rowAt.set (h : rowAt w base E size v n xs) (ha : arr w b T ys) (hT : T ≠ E) (off : Nat) (x : Value) : rowAt (w.setCell ⟨b, off, none⟩ x) base E size v n xs :=
  h.kept (r := some b) ⟨rfl, rfl, rfl, by simp [World.setCell], fun k _ hk => Below.heap_setCell _ _ _ _ (fun e => hk (by simp [e]))⟩ (Or.inr (h.ne ha hT))
theorem rowAt.of_owns (h : w.ownsRow base E size v n xs) : rowAt w base E size v n xs := by
  refine ⟨h.1, ?_⟩
  rcases h.2 with hn | ⟨g, cap, cur, rfl, hb, hg, hnc, hcm, hcs, htk⟩
  · exact Or.inl hn
  · refine Or.inr ⟨g, 0, cap, cur.toList, rfl, hb, ?_, hnc, hcm, by simp [hcs], fun j hj => ?_⟩
    · unfold Go.Proofs.Ytcfohdkdppiekaa.arr; rw [hg]
    · rw [Nat.zero_add, ← htk, List.getElem?_take_of_lt hj]
/-- one element less ahead -/
theorem rowAt.drop {off cap : Nat} (h : rowAt w base E size (.slice (some ⟨b, off, none⟩) (n + 1) cap) (n + 1) xs) : rowAt w base E size (.slice (some ⟨b, off + size, none⟩) n (cap - 1)) n (xs.drop size) := by
  have hm : (n + 1) * size = n * size + size := Nat.succ_mul _ _
  refine ⟨by rw [List.length_drop, h.1]; omega, ?_⟩
  rcases h.2 with ⟨e, _⟩ | ⟨b', off', cap', cur, e, hb, ha, hc, hcm, hl, hx⟩
  · cases e
  · cases e
    obtain ⟨c, rfl⟩ : ∃ c, cap = c + 1 := ⟨cap - 1, by omega⟩
    have hm2 : (c + 1) * size = c * size + size := Nat.succ_mul _ _
    refine Or.inr ⟨b, off + size, c, cur, rfl, hb, ha, by omega, by omega, by omega, fun j hj => ?_⟩
    rw [List.getElem?_drop, Nat.add_assoc]
    exact hx (size + j) (by omega)
theorem arr.setCells : ∀ (vs : List Value) (o : Nat) (w : World) (cur : List Value), arr w b T cur → o + vs.length ≤ cur.length →
    ∃ cur', arr (w.setCells b o vs) b T cur' ∧ cur'.length = cur.length ∧ ∀ j, cur'[j]? = if o ≤ j ∧ j < o + vs.length then vs[j - o]? else cur[j]?
  | [], o, w, cur, h, _ => ⟨cur, h, rfl, fun j => by rw [if_neg (by simp only [List.length_nil]; omega)]⟩
  | v :: r, o, w, cur, h, hl => by
    simp only [List.length_cons] at hl
    obtain ⟨cur', h1, h2, h3⟩ := arr.setCells r (o + 1) _ _ (h.set o v) (by rw [List.length_set]; omega)
    refine ⟨cur', h1, by rw [h2, List.length_set], fun j => ?_⟩
    rw [h3 j]
    simp only [List.length_cons]
    by_cases hj : j = o
    · subst hj
      rw [if_neg (by omega), if_pos (by omega), List.getElem?_set_self (by omega)]; simp
    · by_cases hj2 : o + 1 ≤ j ∧ j < o + 1 + r.length
      · rw [if_pos hj2, if_pos (by omega), show j - o = (j - (o + 1)) + 1 by omega]; simp
      · rw [if_neg hj2, if_neg (by omega), List.getElem?_set_ne (by omega)]
theorem grown_setCells : ∀ (vs : List Value) (o : Nat) (w : World), w.grownBy (w.setCells b o vs) (some b)
  | [], _, w => ⟨rfl, rfl, rfl, Nat.le_refl _, fun _ _ _ => rfl⟩
  | v :: r, o, w => grown_tr (grown_set (g := b) ⟨rfl, rfl, rfl, Nat.le_refl _, fun _ _ _ => rfl⟩ o v) (grown_setCells r (o + 1) _)
/-- append, whatever the source -/
theorem wpList_append_at {ops : Array Oper} {rest : List Oper} {o : Oper} {ac : Act} {Q : Exit → Act → World → Prop} (hgd : o.guard = none) (s x : Operand) (t : TypeId)
    (ho : o.op = .call { callee := .builtin .append, args := #[s, x], argTypes := #[t, t] }) (i : TypeInfo) (z : Value) (bytes : Nat) (ht : P.underlying t = some (.slice E)) (hi : P.info? E = some i) (hz : i.zero = some z) (hsize : i.size = size) (hby : i.bytes = bytes) (hzs : z.cells.size = size) (hsz : 0 < size)
    (hs : ac.eval s = v) (hown : rowAt w base E size v n xs) (ad : Addr) (m c : Nat) (news : List Value) (hx : ac.eval x = .slice (some ad) m c) (hl : news.length = m * size) (hnews : ∀ j u, news[j]? = some u → w.cell? (ad.add j) = some u) (h1 : ∀ u ∈ news, u.oneCell' = true)
    (h63 : n + m ≤ 1000000000) (hb16 : bytes ≤ 100) (hbase : base ≤ w.heap.size)
    (h : ∀ v' w', rowAt w' base E size v' (n + m) (xs ++ news) → w.grownBy w' v.ownBlock → (∀ k, v'.ownBlock = some k → v.ownBlock = some k ∨ w.heap.size ≤ k) → wpList P ops Q rest (ac.put o.dst v') w') : wpList P ops Q (o :: rest) ac w := by
  have hb2 : (n + m) * bytes ≤ 1000000000 * 100 := Nat.mul_le_mul h63 hb16
  have hlen : (xs ++ news).length = (n + m) * size := by rw [List.length_append, hown.1, hl, Nat.add_mul]
  have key : ∃ v' w', (Builtin.append_ #[t, t] o.type #[v, .slice (some ad) m c]).run P w = .ok v' w' ∧ rowAt w' base E size v' (n + m) (xs ++ news) ∧ w.grownBy w' v.ownBlock ∧ (∀ k, v'.ownBlock = some k → v.ownBlock = some k ∨ w.heap.size ≤ k) := by
    rcases hown.2 with ⟨rfl, rfl⟩ | ⟨b, off, cap, cur, rfl, hb, ha, hc, hcm, hcl, hxs⟩
    · obtain rfl : xs = [] := List.eq_nil_of_length_eq_zero (by simpa using hown.1)
      obtain ⟨v', w', hr, h2, h3, _, h5⟩ := run_append_own_at (P := P) w base t o.type E i z size bytes ht hi hz hsize hby hzs hsz (.slice none 0 0) 0 [] (World.ownsRow_nil _ _ _ _) ad m c news hl hnews h1 (by unfold maxLen; omega) (by omega) hbase
      exact ⟨v', w', hr, rowAt.of_owns h2, h3, fun k hk => by rcases h5 with h5 | h5 <;> rw [h5] at hk <;> cases hk; exact Or.inr (Nat.le_refl _)⟩
    · by_cases hr : n + m ≤ cap
      · subst hsize
        have hcs : (n + m) * i.size ≤ cap * i.size := Nat.mul_le_mul_right _ hr
        rw [Nat.add_mul] at hcs
        have hfit : off + n * i.size + news.length ≤ cur.length := by omega
        have hrun := run_append_room_cells (P := P) w t o.type E i ht hi b off n cap ad m c news hl hnews h1 hr (fun j hj => by
          rw [ha.cell (off + n * i.size + j) _ (List.getElem?_eq_getElem (by omega))]; rfl) (fun j hj => ha.free _)
        obtain ⟨cur', h2, h3, h4⟩ := arr.setCells news (off + n * i.size) w cur ha hfit
        refine ⟨_, _, hrun, ⟨hlen, Or.inr ⟨b, off, cap, cur', rfl, hb, h2, hr, hcm, by rw [h3]; exact hcl, fun j hj => ?_⟩⟩, grown_setCells _ _ _, fun k hk => Or.inl hk⟩
        rw [h4]
        have hxl := hown.1
        rw [Nat.add_mul] at hj
        by_cases hj2 : j < n * i.size
        · rw [if_neg (by omega), List.getElem?_append_left (by omega)]; exact hxs j hj2
        · rw [if_pos (by omega), List.getElem?_append_right (by omega)]
          congr 1; omega
      · obtain ⟨v', w', hrun, r1, r2⟩ := run_append_arg_grows (P := P) w t o.type E i z size bytes ht hi hz hsize hby hzs hsz ⟨b, off, none⟩ n cap xs hown.1 (fun j u hj => by
          rw [Addr.add_lit]
          refine ha.cell _ _ ?_
          rw [hxs j (by rw [← hown.1]; exact (List.getElem?_eq_some_iff.1 hj).1), hj]) ad m c news hl hnews (by omega) (by unfold maxLen; omega) (by omega)
        have hro := rowAt.of_owns r1
        refine ⟨v', w', hrun, ⟨hlen, ?_⟩, ⟨r2.os, r2.tape, r2.output, r2.size, fun k hk _ => r2.block k hk (by simp)⟩, ?_⟩
        · rcases hro.2 with ⟨rfl, e⟩ | ⟨b', off', cap', cur', e, hb', rest⟩
          · exact Or.inl ⟨rfl, e⟩
          · exact Or.inr ⟨b', off', cap', cur', e, Nat.le_trans hbase hb', rest⟩
        · intro k hk
          exact Or.inr (hro.block k hk).1
  obtain ⟨v', w', hrun, h2, h3, h4⟩ := key
  refine wpList_plain hgd fun K hK => ?_
  unfold Oper.wp
  simp [execOp, ho, resolve, invoke, builtin, hs, hx, hrun, Result.andThen]
  exact hK _ _ (h v' w' h2 h3 h4)
end
end Go.Proofs.Ytcfohdkdppiekaa
