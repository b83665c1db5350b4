/- Small tools: a block of cells told whole; worlds that come of work that makes memory alone. -/
import Derived.WalkKit
import Derived.WalkSpells
import Derived.WalkLawsBesides
import Derived.Deep.QuietTactic
import Derived.BigQuiet
import Derived.BigRegion
namespace Go.Proofs.Ytcfohdkdppiekaa
open Go.RowKit
theorem hid {p : Prop} (h : p) : Hid p := h
/-- block b is a plain row of cells -/
def arr (w : World) (b : Nat) (T : TypeId) (xs : List Value) : Prop := w.heap[b]? = some (.cells xs.toArray T (0, 0))
section
variable {w : World} {b : Nat} {T : TypeId} {xs : List Value}
theorem arr.cell (h : arr w b T xs) (i : Nat) (v : Value) (hv : xs[i]? = some v) : w.cell? ⟨b, i, none⟩ = some v := by
  unfold arr at h
  simp [World.cell?, h, hv]
theorem arr.free (h : arr w b T xs) (i : Nat) : w.frozen? ⟨b, i, none⟩ = false := by
  unfold arr at h
  simp [World.frozen?, h]
theorem arr.lt (h : arr w b T xs) : b < w.heap.size := by
  unfold arr at h
  exact (Array.getElem?_eq_some_iff.1 h).1
theorem arr.set (h : arr w b T xs) (i : Nat) (v : Value) : arr (w.setCell ⟨b, i, none⟩ v) b T (xs.set i v) := by
  unfold arr at *
  simp only [World.setCell, Array.getElem?_modify, if_true, h, Option.map_some]
  simp
theorem arr.other (h : arr w b T xs) (a : Addr) (ha : a.block ≠ b) (v : Value) : arr (w.setCell a v) b T xs := by
  unfold arr at *
  rw [Below.heap_setCell _ _ _ _ (Ne.symm ha)]; exact h
theorem arr.alloc (h : arr w b T xs) (o : Obj) : arr (w.alloc o) b T xs := by
  have := h.lt
  unfold arr at *
  rw [Below.heap_alloc _ _ _ this]; exact h
theorem arr.drewN (h : arr w b T xs) (n : Nat) : arr (w.drewN n) b T xs := h
theorem arr.drew (h : arr w b T xs) : arr w.drew b T xs := h
theorem arr.below {B : Nat} {w' : World} (h : arr w b T xs) (hb : Below B w w') (hB : b < B) : arr w' b T xs := by
  unfold arr at *
  rw [hb.block b hB]; exact h
theorem arr.keep {w' : World} (h : arr w b T xs) (hb : Below w.heap.size w w') : arr w' b T xs := h.below hb h.lt
theorem arr.new (w : World) (T : TypeId) (xs : List Value) : arr (w.alloc (.cells xs.toArray T (0, 0))) w.heap.size T xs := by
  unfold arr
  show (w.heap.push _)[w.heap.size]? = _
  simp
theorem arr.newAt (w : World) (T : TypeId) (xs : List Value) (b : Nat) (h : b = w.heap.size) : arr (w.alloc (.cells xs.toArray T (0, 0))) b T xs := by
  subst h; exact arr.new w T xs
end
theorem below_drewN {B : Nat} {a w : World} (h : Below B a w) (n : Nat) : Below B a (w.drewN n) := ⟨h.os, h.tape, h.output, h.size, h.block⟩
/-- what comes of a call that only makes memory -/
theorem below_call {B : Nat} {a w w' : World} (h : Below B a w) (hb : Below w.heap.size w w') (hB : B ≤ w.heap.size) : Below B a w' := h.trans (hb.mono hB)
theorem below_all {a w w' : World} (h : Below a.heap.size a w) (hb : Below w.heap.size w w') : Below a.heap.size a w' := h.trans (hb.mono h.size)
/-- a world that comes of W by work that makes memory alone -/
structure Later (W : World) where
  w : World
  below : Below W.heap.size W w
instance later_some (W : World) : Nonempty (Later W) := ⟨⟨W, Below.refl _ _⟩⟩
def later (W : World) (u : Later W) : World := u.w
@[simp, go_sem] theorem later_cell (W : World) (u : Later W) (a : Addr) (h : a.block < W.heap.size) : (later W u).cell? a = W.cell? a := u.below.cell h
@[simp, go_sem] theorem later_frozen (W : World) (u : Later W) (a : Addr) (h : a.block < W.heap.size) : (later W u).frozen? a = W.frozen? a := u.below.frozen h
theorem wp_region_later_lit {P : Program} {id : Nat} {Q : Exit → Act → World → Prop} {a : Act} {w : World} {l : List Oper} (hm : P.follows .mixedOrders = true) (hB : Region.lexB .any l.toArray = true)
    (h : wpQuiet P l.toArray (fun w' => ∃ u, w' = later w u) (fun a' => ∀ w', (∃ u, w' = later w u) → Q .normal a' w') l a) : (Code.region id l.toArray true).wp P Q a w :=
  wp_region_quiet (C := fun w' => ∃ u, w' = later w u) hm hB ⟨⟨w.drew, (Below.refl _ _).drew⟩, rfl⟩ (by simpa using h)
theorem later_call {P : Program} {f : FuncId} {args : Array Value} {W : World} {u : Later W} {v : Value}
    (h : Calls P f args (later W u) fun e w' => e = .returned v ∧ Below (later W u).heap.size (later W u) w') : Calls P f args (later W u) fun e w'' => e = .returned v ∧ ∃ u', w'' = later W u' :=
  h.mono fun _ w' ⟨he, hb⟩ => ⟨he, ⟨w', u.below.trans (hb.mono u.below.size)⟩, rfl⟩
theorem later_quiet {P : Program} {f : FuncId} {args : Array Value} {W : World} {u : Later W} {v : Value}
    (h : Calls P f args (later W u) fun e w' => e = .returned v ∧ ∃ k, w' = (later W u).drewN k) : Calls P f args (later W u) fun e w'' => e = .returned v ∧ ∃ u', w'' = later W u' :=
  later_call (h.mono fun _ _ ⟨he, k, hk⟩ => ⟨he, by subst hk; exact below_drewN (Below.refl _ _) k⟩)
theorem quiet_add {P : Program} {f : FuncId} {args : Array Value} {w : World} {a n : Nat} {v : Value}
    (h : Calls P f args (w.drewN (a + n)) fun e w' => e = .returned v ∧ ∃ m, w' = (w.drewN (a + n)).drewN m) :
    Calls P f args (w.drewN (a + n)) fun e w'' => e = .returned v ∧ ∃ m, w'' = w.drewN (a + m) :=
  h.mono fun _ _ ⟨he, m, hm⟩ => ⟨he, n + m, by rw [hm, World.drewN_drewN, Nat.add_assoc]⟩
theorem wpList_build_at {P : Program} {ops : Array Oper} {rest : List Oper} {o : Oper} {a : Act} {w : World} {Q : Exit → Act → World → Prop} (hg : o.guard = none) (t : TypeId) (parts : Array (Nat × Operand)) (ho : o.op = .build t parts)
    (cs : Array Value) (hb : P.built t (parts.map fun (i, x) => (i, a.eval x)).toList = some cs) (h : wpList P ops Q rest (a.put o.dst (.agg cs)) w) : wpList P ops Q (o :: rest) a w :=
  wpList_build hg t parts ho (by rw [hb]; rfl) (by rw [hb]; exact h)
theorem arr.row {w : World} {b : Nat} {T : TypeId} {xs : List Value} (h : arr w b T xs) (cs : List Value) : arr (w.setRow b cs.toArray) b T cs := setRow_heap _ _ _ _ _ _ h
theorem arr.rowOther {w : World} {b g : Nat} {T : TypeId} {xs : List Value} (h : arr w b T xs) (hg : b ≠ g) (cs : Array Value) : arr (w.setRow g cs) b T xs := (setRow_other _ _ _ _ hg).trans h
theorem below_setRow' {B g : Nat} {w0 w : World} (hb : Below B w0 w) (hBg : B ≤ g) (cs : Array Value) : Below B w0 (w.setRow g cs) :=
  hb.trans ⟨rfl, rfl, rfl, by simp, fun k hk => setRow_other _ _ _ _ (by omega)⟩
theorem wpList_store_arr {P : Program} {ops : Array Oper} {rest : List Oper} {o : Oper} {a : Act} {w : World} {Q : Exit → Act → World → Prop} (hgd : o.guard = none) (ty : TypeId) (x y : Operand) (ho : o.op = .store ty x y)
    (g : Nat) (cells : List Value) (hx : a.eval x = .pointer (some ⟨g, 0, none⟩)) (hy : a.eval y = .agg cells.toArray)
    (t : TypeId) (old : List Value) (hg : arr w g t old) (hi : (P.info? ty).map (·.size) = some cells.length)
    (hold : old.length = cells.length) (h1 : cells.all (·.oneCell') = true)
    (h : ∀ w', w' = w.setRow g cells.toArray → wpList P ops Q rest (a.put o.dst undef) w') : wpList P ops Q (o :: rest) a w :=
  wpList_store_row hgd ty x y ho g cells.toArray hx hy t old.toArray hg (by simpa using hi) (by simpa using hold) (by simpa using h1) (h _ rfl)
theorem arr.results {P : Program} {fn : Func} {p : Tmp} {ty : TypeId} (h : fn.results = #[.cell p ty]) (tmps : Array Value) (w : World) (g : Nat) (t : TypeId) (cs : List Value) (d : TypeDesc)
    (hp : tmps.getD p undef = .pointer (some ⟨g, 0, none⟩)) (hg : arr w g t cs)
    (hu : P.underlying ty = some d) (hd : (match d with | .struct _ | .array _ _ => true | _ => false) = true) (hi : (P.info? ty).map (·.size) = some cs.length) :
    (results fn tmps).run P w = .ok (.agg cs.toArray) w :=
  results_cell_row h tmps w g t cs.toArray (0, 0) d hp hg hu hd (by simpa using hi)
/-- a struct or an array that lies within a block -/
theorem run_loadVar_part {P : Program} (w : World) (g off : Nat) (ty : TypeId) (cs : List Value) (d : TypeDesc) (hc : ∀ j v, cs[j]? = some v → w.cell? ⟨g, off + j, none⟩ = some v)
    (hu : P.underlying ty = some d) (hd : (match d with | .struct _ | .array _ _ => true | _ => false) = true) (hi : (P.info? ty).map (·.size) = some cs.length) :
    (loadVar ty ⟨g, off, none⟩).run P w = .ok (.agg cs.toArray) w := by
  have hl : (loadCells ⟨g, off, none⟩ cs.length).run P w = .ok cs.toArray w :=
    run_loadCells_list (P := P) w ⟨g, off, none⟩ cs fun j v hv => by
      have e : (⟨g, off, none⟩ : Addr).add j = ⟨g, off + j, none⟩ := by unfold Addr.add; split <;> simp_all
      rw [e]; exact hc j v hv
  cases hq : P.info? ty with
  | none => simp [hq] at hi
  | some i =>
    have hs : i.size = cs.length := by simpa [hq] using hi
    have hagg : (isAgg ty).run P w = .ok true w := by
      unfold isAgg
      rw [Sem.run_bind, run_underlying hu w]
      cases d <;> simp_all
    simp [loadVar, Sem.run_bind, hagg, sizeOf, typeInfo, hq, hs, hl]
theorem wpList_load_part {P : Program} {ops : Array Oper} {rest : List Oper} {o : Oper} {a : Act} {w : World} {Q : Exit → Act → World → Prop} (hgd : o.guard = none) (ty : TypeId) (x : Operand) (ho : o.op = .load ty x)
    (g off : Nat) (hx : a.eval x = .pointer (some ⟨g, off, none⟩)) (cs : List Value) (d : TypeDesc) (hc : ∀ j v, cs[j]? = some v → w.cell? ⟨g, off + j, none⟩ = some v)
    (hu : P.underlying ty = some d) (hd : (match d with | .struct _ | .array _ _ => true | _ => false) = true) (hi : (P.info? ty).map (·.size) = some cs.length)
    (h : wpList P ops Q rest (a.put o.dst (.agg cs.toArray)) w) : wpList P ops Q (o :: rest) a w := by
  refine wpList_plain hgd fun K hK => ?_
  have := run_loadVar_part (P := P) w g off ty cs d hc hu hd hi
  unfold Oper.wp
  simp only [execOp, ho, hx, Instr.loadAt, Instr.sureAddr, Sem.run_bind, Sem.run_pure, Result.andThen_ok, this]
  exact hK _ _ h
/-- an element of an array value -/
theorem run_index_agg {P : Program} (w : World) (T E n : Nat) (cs : Array Value) (k : Nat) (v : Value) (hT : P.underlying T = some (.array n E)) (hE : (isAgg E).run P w = .ok false w) (hs : (sizeOf E).run P w = .ok 1 w) (hk : k < n) (hv : cs[k]? = some v) :
    (Instr.index T (.agg cs) (.int .i64 (k : Int))).run P w = .ok v w := by
  simp [Instr.index, asIntOf, run_underlying hT, hk, hs, part, hE, hv]
theorem arr.kept {w w' : World} {b : Nat} {T : TypeId} {xs : List Value} {g : Nat} (h : arr w b T xs) (hg : w.grownBy w' (some g)) (hne : b ≠ g) : arr w' b T xs := by
  have := h.lt
  unfold arr at *
  rw [hg.block b this (fun e => hne (Option.some.inj e))]; exact h
theorem grown_below {w w' : World} {g : Nat} (h : Below w.heap.size w w') : w.grownBy w' (some g) := ⟨h.os, h.tape, h.output, h.size, fun k hk _ => h.block k hk⟩
theorem grown_set {w w' : World} {g : Nat} (h : w.grownBy w' (some g)) (off : Nat) (v : Value) : w.grownBy (w'.setCell ⟨g, off, none⟩ v) (some g) :=
  ⟨h.os, h.tape, h.output, by have := h.size; simpa [World.setCell] using this, fun k hk hne => (Below.heap_setCell _ _ _ _ (fun e => hne (by rw [e]))).trans (h.block k hk hne)⟩
theorem grown_drew {w w' : World} {g : Option Nat} (h : w.grownBy w' g) : w.grownBy w'.drew g := ⟨h.os, h.tape, h.output, h.size, h.block⟩
theorem grown_drewN {w w' : World} {g : Option Nat} (h : w.grownBy w' g) (n : Nat) : w.grownBy (w'.drewN n) g := ⟨h.os, h.tape, h.output, h.size, h.block⟩
theorem ret_int {k : IntKind} {a b : Int} (h : a = b) : Ending.returned (.int k a) = .returned (.int k b) := by rw [h]
theorem val_int {k : IntKind} {a b : Int} (h : a = b) : Value.int k a = .int k b := by rw [h]
end Go.Proofs.Ytcfohdkdppiekaa
