/- Of two things the bytes of one begin those of the other only if both are alike: plain Lean. -/
import Derived.Test.YtcfohdkdppiekaaDoorSpecPack
import Derived.Test.YtcfohdkdppiekaaDoorWPackLays
namespace Go.Proofs.YtcfohdkdppiekaaDoor
def thTxt (t : Th) : List UInt8 := thText t.2.2.1 t.2.2.2
def isTxt (S : Int) : Bool := S == 1 || S == 2
def alikeB (t u : Th) : Bool := if t.1 == u.1 then (if isTxt t.1 then thTxt t == thTxt u else t.2.1 == u.2.1) else false
def thNum (t : Th) : Nat := if isTxt t.1 then (thTxt t).length else t.2.1
def thBody (t : Th) : List UInt8 := if isTxt t.1 then thTxt t else []
theorem mcode_zero {n : Int} (h : mcode n = 0) : 0 ≤ n ∧ n < 65536 := by
  unfold mcode at h
  split at h
  · cases h
  · split at h
    · cases h
    · omega
theorem ok_form (t : Th) (ht : thOk t) (h0 : 0 ≤ t.1) (h4 : t.1 ≤ 4) (hc : (thLay t).2 = 0) : (thLay t).1 = pick (tab.getD t.1.toNat []) (thNum t) ++ thBody t ∧ thNum t < lim t.1.toNat := by
  obtain ⟨S, N, s, Z⟩ := t
  obtain ⟨o1, _⟩ := ht
  simp only at o1 h0 h4
  obtain ⟨T, hT⟩ : ∃ T, T = thText s Z := ⟨_, rfl⟩
  have hS : S = 0 ∨ S = 1 ∨ S = 2 ∨ S = 3 ∨ S = 4 := by omega
  have hw : ∀ {c : List UInt8}, wcode c = 0 → c.length < 65536 := fun {c} h => by
    unfold wcode at h
    split at h
    · assumption
    · cases h
  have hs : ∀ {c : List UInt8} {rs : List Rw}, c.length < 65536 → wlay rs c = pick rs c.length ++ c := fun {c rs} h => by unfold wlay; rw [if_pos h]
  have hn : 0 ≤ sgn N → sgn N < 65536 → (sgn N).toNat = N := fun h1 h2 => by
    unfold sgn at h1 h2 ⊢
    split at h1 <;> simp_all <;> omega
  rcases hS with rfl | rfl | rfl | rfl | rfl
  · refine ⟨?_, o1⟩
    show pick (tab.getD 0 []) N = pick (tab.getD 0 []) N ++ []
    rw [List.append_nil]
  · have hc' : wcode (thText s Z) = 0 := hc
    have hl := hw hc'
    exact ⟨hs hl, hl⟩
  · have hc' : wcode (thText s Z) = 0 := hc
    have hl := hw hc'
    exact ⟨hs hl, hl⟩
  · have hc' : mcode (sgn N) = 0 := hc
    obtain ⟨h1, h2⟩ := mcode_zero hc'
    refine ⟨?_, ?_⟩
    · show mlay (tab.getD 3 []) (sgn N) = pick (tab.getD 3 []) N ++ []
      unfold mlay
      rw [if_pos hc', hn h1 h2, List.append_nil]
    · show N < 65536
      have := hn h1 h2; omega
  · have hc' : mcode (sgn N) = 0 := hc
    obtain ⟨h1, h2⟩ := mcode_zero hc'
    refine ⟨?_, ?_⟩
    · show mlay (tab.getD 4 []) (sgn N) = pick (tab.getD 4 []) N ++ []
      unfold mlay
      rw [if_pos hc', hn h1 h2, List.append_nil]
    · show N < 65536
      have := hn h1 h2; omega
theorem pick_ne (sort n : Nat) (hs : sort < 5) (hn : n < lim sort) : pick (tab.getD sort []) n ≠ [] := by
  intro h
  have := parse_pick sort n hs hn []
  rw [h] at this
  simp [parse] at this
  omega
theorem apart_prefix (t u : Th) (ht : thOk t) (hu : thOk u) (t0 : 0 ≤ t.1) (t4 : t.1 ≤ 4) (u0 : 0 ≤ u.1) (u4 : u.1 ≤ 4) (tc : (thLay t).2 = 0) (uc : (thLay u).2 = 0) :
    ((thLay t).1 <+: (thLay u).1 ↔ alikeB t u = true) ∧ ((thLay t).1 = (thLay u).1 ↔ alikeB t u = true) ∧ (thLay t).1 ≠ [] := by
  obtain ⟨et, lt⟩ := ok_form t ht t0 t4 tc
  obtain ⟨eu, lu⟩ := ok_form u hu u0 u4 uc
  have pt := fun r => parse_pick t.1.toNat (thNum t) (by omega) lt r
  have pu := fun r => parse_pick u.1.toNat (thNum u) (by omega) lu r
  have fwd : (thLay t).1 <+: (thLay u).1 → alikeB t u = true := by
    rintro ⟨r, hr⟩
    have hp : parse ((thLay t).1 ++ r) = parse (thLay u).1 := by rw [hr]
    rw [et, eu, List.append_assoc, pt, pu] at hp
    simp only [Prod.mk.injEq] at hp
    obtain ⟨h1, h2⟩ := hp
    have hS : t.1 = u.1 := by omega
    unfold alikeB
    rw [if_pos (by simpa using hS)]
    rw [et, eu, h1, h2, List.append_assoc] at hr
    have hb := List.append_cancel_left hr
    unfold thNum at h2
    unfold thBody at hb
    rw [hS] at h2 hb ⊢
    by_cases hi : isTxt u.1 = true
    · rw [if_pos hi] at h2 hb ⊢
      rw [if_pos hi] at h2 hb
      have hl := congrArg List.length hb
      rw [List.length_append] at hl
      have : r = [] := List.length_eq_zero_iff.1 (by omega)
      rw [this, List.append_nil] at hb
      simpa using hb
    · rw [if_neg hi] at h2 ⊢
      rw [if_neg hi] at h2
      simpa using h2
  have bwd : alikeB t u = true → (thLay t).1 = (thLay u).1 := by
    intro h
    unfold alikeB at h
    split at h
    · rename_i hS
      have hS' : t.1 = u.1 := by simpa using hS
      rw [et, eu]
      unfold thNum thBody
      rw [hS'] at h ⊢
      split at h
      · rename_i hi
        rw [if_pos hi, if_pos hi, if_pos hi, if_pos hi]
        have : thTxt t = thTxt u := by simpa using h
        rw [this]
      · rename_i hi
        rw [if_neg hi, if_neg hi, if_neg hi, if_neg hi]
        have : t.2.1 = u.2.1 := by simpa using h
        rw [this]
    · cases h
  refine ⟨⟨fwd, fun h => ?_⟩, ⟨fun h => fwd ?_, bwd⟩, ?_⟩
  · rw [bwd h]; exact List.prefix_refl _
  · rw [h]; exact List.prefix_refl _
  · rw [et]
    intro h
    exact pick_ne t.1.toNat (thNum t) (by omega) lt (List.append_eq_nil_iff.1 h).1
end Go.Proofs.YtcfohdkdppiekaaDoor
