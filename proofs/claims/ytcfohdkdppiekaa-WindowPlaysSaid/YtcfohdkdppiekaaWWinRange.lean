/- A range over a window's intervals: the law. -/
import Derived.Test.YtcfohdkdppiekaaWAll
namespace Go.Proofs.Ytcfohdkdppiekaa
open Go Go.RowKit Go.Proofs
attribute [local go_sem] Oper.semAt_some
theorem all1_enters : ∀ args w, (callFunc 155 args).run Try.prog w = .ok (.enter 155 args) w := enters_of Try.func155 (by kernel_rfl) rfl
theorem Al.bears {g most pb l : Nat} {L : List Iv} {I : List Iv → World → Prop} {pre : List Iv} {W : World} {o o' : Obj} (ho : W.heap[l]? = some o) (hc : o.isCells = false) (hI : I pre W → I pre (W.putObj l o')) (h : Al g most L pb I pre W) : Al g most L pb I pre (W.putObj l o') :=
  ⟨h.eq, h.len, h.win.bears ho hc, arr_bears ho hc h.box, hI h.own⟩
/-- the interval that is handed over, boxed -/
def ivCells (x : Iv) : List Value := [.int .u64 (x.1 : Int), .int .u64 (x.2.1 : Int), .string ⟨x.2.2.toArray⟩]
theorem range_win {G : Operand} {p : Tmp} {assign body : Code} {Q : Exit → Act → World → Prop} {a : Act} {w : World} (g most : Nat) (L : List Iv) (pb : Nat)
    (hg : a.eval G = .func (.func 155) #[] #[.pointer (some ⟨pb, 0, none⟩)]) (hW : isW w g most L) (hB : arr w pb 47 [.pointer (some ⟨g, 0, none⟩)])
    (I : List Iv → World → Prop) (Ix : Code → List Iv → World → Prop) (A : Iv → Nat → Act) (hmove : ∀ pre W W', I pre W → Below W.heap.size W W' → I pre W') (hI : ∀ pre, Bears w.heap.size (I pre)) (hIx : ∀ c pre, Bears w.heap.size (Ix c pre)) (h0 : I [] w) (hsz : ∀ pre W, I pre W → w.heap.size ≤ W.heap.size)
    (hassign : ∀ (l : Nat) (x : Iv) (W : World) (K : Act → World → Prop), (∀ W', Below W.heap.size W W' → arr W' W.heap.size 153 (ivCells x) → K (A x W.heap.size) W') →
      assign.wpIn (Fence.wide.inRound l) 0 Try.prog (Exit.then K (fun _ _ _ => False)) { tmps := a.tmps.setIfInBounds p (.agg (ivCells x).toArray), defers := [] } W)
    (hbody : ∀ (l : Nat) (pre : List Iv) (x : Iv) (bx : Nat) (W : World), Al g most L pb I pre W → L[pre.length]? = some x → arr W bx 153 (ivCells x) → w.heap.size ≤ bx → body.wpIn (Fence.wide.inRound l) 0 Try.prog (leftBy (Al g most L pb I) Ix (pre ++ [x]) W) (A x bx) W)
    (hdone : ∀ (D : Nat) (W : World), w.heap.size ≤ D → I L W → isW W g most L → W.heap[D]? = some (.deferred (some [])) → Q .normal { a with defers := { target := .collected D, args := #[] } :: a.defers } W)
    (hstop : ∀ (D : Nat) (c : Code) (pre : List Iv) (W : World), w.heap.size ≤ D → Ix c pre W → W.heap[D]? = some (.deferred (some [])) → c.wpIn Fence.wide 0 Try.prog Q { a with defers := { target := .collected D, args := #[] } :: a.defers } W) :
    (Code.rangeFunc G #[p] assign body).wp Try.prog Q a w := by
  refine (wpIn_wide (n := 0)).1 ?_
  have hww : w.heap.size ≤ w.heap.size := Nat.le_refl _
  refine wpIn_range_moves hg all1_enters encI (fun x => rfl) (Al g most L pb I) (fun pre x W => Al g most L pb I pre W ∧ L[pre.length]? = some x)
    (fun l pre x a' W => Al g most L pb I pre W ∧ L[pre.length]? = some x ∧ ∃ bx, w.heap.size ≤ bx ∧ arr W bx 153 (ivCells x) ∧ a' = A x bx) Ix (fun xs => xs = L) ?_ ?_ hIx ?_ ?_ ?_ ?_ ?_ hstop
  · intro pre W l o o' hl ho hc h
    exact h.bears ho hc (hI _ _ _ _ _ hl ho hc)
  · rintro l0 pre x a' W l o o' hl ho hc ⟨h, hx, bx, hb, ha, rfl⟩
    exact ⟨h.bears ho hc (hI _ _ _ _ _ hl ho hc), hx, bx, hb, arr_bears ho hc ha, rfl⟩
  · intro o1 o2
    have hb : Below w.heap.size w ((w.alloc o1).alloc o2) := ((Below.refl _ _).alloc (Nat.le_refl _) _).alloc (by simp) _
    exact ⟨rfl, Nat.zero_le _, hW.keep hb, hB.keep hb, hmove _ _ _ h0 hb⟩
  · intro l D r W1 hD hl hL hJ hy
    exact all1_iter l D r g most L pb I Ix hmove hy W1 hL hJ
  · rintro l pre x W K ⟨h, hx⟩ hK
    have e : (#[p].zip (encI x)).foldl (fun t (p, v) => t.setIfInBounds p v) a.tmps = a.tmps.setIfInBounds p (.agg (ivCells x).toArray) := by simp [encI, ivCells]
    rw [e]
    refine hassign l x W K fun W' hb ha => ?_
    refine hK _ _ (keeps_below hb) ⟨⟨h.eq, h.len, h.win.keep hb, h.box.keep hb, hmove _ _ _ h.own hb⟩, hx, W.heap.size, hsz _ _ h.own, ha, rfl⟩
  · rintro l pre x a' W ⟨h, hx, bx, hb, ha, rfl⟩
    exact hbody l pre x bx W h hx ha hb
  · rintro D xs W hD rfl hJ hdf
    exact hdone D W hD hJ.own hJ.win hdf
end Go.Proofs.Ytcfohdkdppiekaa
