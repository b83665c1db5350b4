/- law05's text: contract. -/
import Derived.Test.YtcfohdkdppiekaaDoorWPackLaid
namespace Go.Proofs.YtcfohdkdppiekaaDoor
open Go.RowKit Go.Proofs
theorem own_zeros2 {w : World} {base g n : Nat} (h : w.ownsRow base 5 1 (.slice (some ⟨g, 0, none⟩) n n) n (madeCells (Value.int .u8 0).cells (n * 1)).toList) : own w base (.slice (some ⟨g, 0, none⟩) n n) (List.replicate n 0) := by
  have e : (madeCells (Value.int .u8 0).cells (n * 1)).toList = bcs (List.replicate n 0) := by
    rw [Nat.mul_one]
    show (madeCells #[Value.int .u8 0] n).toList = _
    rw [toList_madeCells_one]
    simp [bcs]
  unfold own
  rw [List.length_replicate, ← e]
  exact h
theorem ext_take (l : List UInt8) (n : Nat) : (⟨l.toArray⟩ : ByteArray).extract 0 n = ⟨(l.take n).toArray⟩ := by
  rw [ByteArray.extract_mk]; simp
/-- a thing's bytes -/
def thText (s : List UInt8) (Z : Int) : List UInt8 := s.take 700 ++ if 70000 < Z then [] else List.replicate Z.toNat 0
theorem thText_len (s : List UInt8) (Z : Int) : (thText s Z).length ≤ 70700 := by
  unfold thText
  rw [List.length_append, List.length_take]
  split <;> simp <;> omega
abbrev thing (S N : Int) (s : List UInt8) (Z : Int) : Value := .agg #[.int .i64 S, .int .u64 N, .string ⟨s.toArray⟩, .int .u32 Z]
set_option maxRecDepth 100000 in
set_option maxHeartbeats 2000000 in
theorem text_any (S N : Int) (s : List UInt8) (Z : Int) (hz : 0 ≤ Z ∧ Z < 4294967296) (hl : s.length ≤ 9223372036854775807) (w : World) :
    Calls Tryd.prog 11 #[thing S N s Z] w fun e w' => e = .returned (.string ⟨(thText s Z).toArray⟩) ∧ Below w.heap.size w w' := by
  obtain ⟨i0, hi, hz0, hz1, hz2⟩ := info_parts info_byte
  obtain ⟨p, hp⟩ : ∃ p, p = s.take 700 := ⟨_, rfl⟩
  have hpl : p.length ≤ 700 := by rw [hp, List.length_take]; omega
  have hex : ∀ m : Nat, (m = 700 ∨ (m = s.length ∧ s.length ≤ 700)) → (⟨s.toArray⟩ : ByteArray).extract 0 m = ⟨p.toArray⟩ := by
    intro m hm
    rw [ext_take, hp]
    rcases hm with rfl | ⟨rfl, h⟩
    · rfl
    · rw [List.take_length, List.take_of_length_le h]
  have HEX := hid hex
  by_cases hZ : 70000 < Z
  · have et : thText s Z = p := by unfold thText; rw [if_pos hZ, List.append_nil, hp]
    rw [et]
    clear et hex hp
    obtain ⟨q, hq, hqb, hqc⟩ : ∃ q : Nat, min (s.length : Int) 700 = (q : Int) ∧ (q = 700 ∨ (q = s.length ∧ s.length ≤ 700)) ∧ q ≤ s.length := by
      by_cases h3 : s.length ≤ 700
      · exact ⟨s.length, by omega, Or.inr ⟨rfl, h3⟩, Nat.le_refl _⟩
      · exact ⟨700, by omega, Or.inl rfl, by omega⟩
    have hqa : (if (700 : Int) < (s.length : Int) then (700 : Int) else (s.length : Int)) = (q : Int) := by
      rw [← hq]
      split <;> omega
    have HqB := hid hqb
    clear hqb
    go_enter Tryd.func11, Tryd.ntmps11
    go_wp2
    rw [HEX.out _ HqB.out]
    go_ret
    exact ⟨rfl, (Below.refl _ _).alloc (Nat.le_refl _) _⟩
  · obtain ⟨n, hn⟩ : ∃ n : Nat, Z = (n : Int) := ⟨Z.toNat, by omega⟩
    have hn7 : n ≤ 70000 := by omega
    have et : thText s Z = p ++ List.replicate n 0 := by unfold thText; rw [if_neg hZ, hp, hn]; rfl
    rw [et]
    have HN := hid hn
    clear et hex hp hn
    obtain ⟨q, hq, hqb, hqc⟩ : ∃ q : Nat, min (s.length : Int) 700 = (q : Int) ∧ (q = 700 ∨ (q = s.length ∧ s.length ≤ 700)) ∧ q ≤ s.length := by
      by_cases h3 : s.length ≤ 700
      · exact ⟨s.length, by omega, Or.inr ⟨rfl, h3⟩, Nat.le_refl _⟩
      · exact ⟨700, by omega, Or.inl rfl, by omega⟩
    have hqa : (if (700 : Int) < (s.length : Int) then (700 : Int) else (s.length : Int)) = (q : Int) := by
      rw [← hq]
      split <;> omega
    have HqB := hid hqb
    clear hqb
    go_enter Tryd.func11, Tryd.ntmps11
    go_wp2_with (first | (at_make; go_must (refine wpList_make_full _ rfl _ _ 48 rfl w.heap.size 5 i0 (.int .u8 0) 1 Tryd.underlying48 hi hz0 hz1 .i64 .i64 _ _ n rfl rfl HN.out HN.out (by rw [hz2]; omega) (by unfold maxLen; omega) (by simp) ?_); intro w1 how hgr; have ho1 := own_zeros2 how; have hb1 : Below w.heap.size w w1 := ((Below.refl _ _).alloc (Nat.le_refl _) _).grown hgr (by simp) (fun k hk => (by cases hk)); clear how hgr) | (refine wpList_text rfl _ rfl (base := w.heap.size) _ (List.replicate n 0) rfl ho1 ?_))
    rw [HEX.out _ HqB.out]
    go_ret
    refine ⟨?_, hb1⟩
    rw [show (⟨Array.replicate n 0⟩ : ByteArray) = ⟨(List.replicate n 0).toArray⟩ from by simp, str_app]; rfl
end Go.Proofs.YtcfohdkdppiekaaDoor
