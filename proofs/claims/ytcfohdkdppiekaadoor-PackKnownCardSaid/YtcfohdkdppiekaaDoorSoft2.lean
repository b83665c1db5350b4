/- Regions that draw their order: operations that only read come whenever; of the rest, every order is walked. -/
import Derived.Test.YtcfohdkdppiekaaDoorSoft
namespace Go.Proofs.YtcfohdkdppiekaaDoor
open Go.RowKit
section
variable {P : Program} {ops : Array Oper} {Q : Exit → Act → World → Prop} {S : World → Prop} {last : Nat}
def softB0 (ops : Array Oper) (last : Nat) : List Nat → Array Bool → Bool
  | [], _ => true
  | i :: hs, b => (Region.ready .any ops b).contains i && Region.free .any ops b i && (i != last) && softB0 ops last hs (b.setIfInBounds i true)
def marked : List Nat → Array Bool → Array Bool
  | [], b => b
  | i :: hs, b => marked hs (b.setIfInBounds i true)
theorem softs_any0 (hsel : Region.noSelect ops = true) (hl : lastB ops last = true) (m : Nat) (hQ : ∀ o v c a w, Q (.panic c) (Act.put a o v) w → Q (.panic c) a w) :
    ∀ (hs : List Nat) (b : Array Bool) (a : Act) (w : World), HeadInv .any ops ops.size b → softB0 ops last hs b = true → S w →
      softs P ops S (fun a' => anyL P ops Q S last m (marked hs b) a' w) hs a → anyL P ops Q S last (hs.length + m) b a w
  | [], b, a, w, _, _, _, h => by
    rw [List.length_nil, Nat.zero_add]
    exact h
  | i :: hs, b, a, w, inv, hB, hS, h => by
    simp only [softB0, Bool.and_eq_true, bne_iff_ne] at hB
    obtain ⟨⟨⟨hr, hf⟩, hne⟩, hB'⟩ := hB
    obtain ⟨o, ho, v, hy, hK⟩ := h
    have e : (i :: hs).length + m = hs.length + m + 1 := by simp; omega
    rw [e]
    have hr' : i ∈ Region.ready .any ops b := by simpa using hr
    exact anyL.first ho (Region.noSelect_spec hsel) (fun c a w => hQ o.dst v c a w) hl hne _ b a w inv (Region.free_spec ho hf) (by simpa using hr) hy hS
      (softs_any0 hsel hl m hQ hs _ _ w (inv.set hr' (Array.getElem?_eq_some_iff.1 ho).1) hB' hS hK)
/-- THE LAW: softs first, then the others in every order -/
theorem wp_region_soft_any {id : Nat} {a : Act} {w : World} (S : World → Prop) (hs : List Nat) (m last : Nat) (hm : P.follows .mixedOrders = true) (hsel : Region.noSelect ops = true) (hl : lastB ops last = true)
    (hn : hs.length + m = ops.size) (hB : softB0 ops last hs (Array.replicate ops.size false) = true) (hQ : ∀ o v c a w, Q (.panic c) (Act.put a o v) w → Q (.panic c) a w)
    (hS : S w.drew) (h : softs P ops S (fun a' => anyL P ops Q S last m (marked hs (Array.replicate ops.size false)) a' w.drew) hs a) : (Code.region id ops true).wp P Q a w := by
  refine wp_region_any hm (anyL.any _ _ _ _ (S := S) (last := last) ?_)
  have h2 := softs_any0 hsel hl m hQ hs _ a w.drew ⟨by simp, fun j oj _ hlj => (by rw [getD_replicate_false] at hlj; cases hlj), fun t h1 h2 => absurd h2 (by omega)⟩ hB hS h
  rw [hn] at h2
  exact h2
theorem anyL_one {f i : Nat} {b : Array Bool} {a : Act} {w : World} {o : Oper} (hr : Region.ready .any ops b = [i]) (ho : ops[i]? = some o) (hg : o.guard = none)
    (h : o.wp P a w (fun a' w' => (i ≠ last → S w') ∧ anyL P ops Q S last f (b.setIfInBounds i true) a' w') Q) : anyL P ops Q S last (f + 1) b a w := by
  refine ⟨fun h0 => (by rw [hr] at h0; cases h0), fun j hj => ?_⟩
  obtain rfl : j = i := by rw [hr] at hj; simpa using hj
  unfold wpOp
  simp only [ho]
  rw [if_pos (by simp [Region.wanted, hg])]
  exact Or.inl h
theorem anyL_two {f i k : Nat} {b : Array Bool} {a : Act} {w : World} {o u : Oper} (hr : Region.ready .any ops b = [i, k]) (ho : ops[i]? = some o) (hg : o.guard = none) (hu : ops[k]? = some u) (hgu : u.guard = none)
    (h : o.wp P a w (fun a' w' => (i ≠ last → S w') ∧ anyL P ops Q S last f (b.setIfInBounds i true) a' w') Q)
    (h' : u.wp P a w (fun a' w' => (k ≠ last → S w') ∧ anyL P ops Q S last f (b.setIfInBounds k true) a' w') Q) : anyL P ops Q S last (f + 1) b a w := by
  refine ⟨fun h0 => (by rw [hr] at h0; cases h0), fun j hj => ?_⟩
  rw [hr] at hj
  simp only [List.mem_cons, List.not_mem_nil, or_false] at hj
  rcases hj with rfl | rfl
  · unfold wpOp
    simp only [ho]
    rw [if_pos (by simp [Region.wanted, hg])]
    exact Or.inl h
  · unfold wpOp
    simp only [hu]
    rw [if_pos (by simp [Region.wanted, hgu])]
    exact Or.inl h'
theorem anyL_end {b : Array Bool} {a : Act} {w : World} (hr : Region.ready .any ops b = []) (h : Q .normal a w) : anyL P ops Q S last 0 b a w := ⟨hr, h⟩
end
end Go.Proofs.YtcfohdkdppiekaaDoor
