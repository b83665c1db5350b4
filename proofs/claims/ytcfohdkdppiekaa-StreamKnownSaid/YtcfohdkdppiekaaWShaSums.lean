/- The law ShaSums: the walk. -/
import Derived.Test.YtcfohdkdppiekaaWWorks1
namespace Go.Proofs.Ytcfohdkdppiekaa
open Go.RowKit Go.Proofs
theorem own_zeros {w : World} {base g n : Nat} (h : w.ownsRow base 5 1 (.slice (some ⟨g, 0, none⟩) n n) n (madeCells (Value.int .u8 0).cells (n * 1)).toList) : own w base (.slice (some ⟨g, 0, none⟩) n n) (List.replicate n 0) := by
  have e : (madeCells (Value.int .u8 0).cells (n * 1)).toList = bcs (List.replicate n 0) := by
    rw [Nat.mul_one]
    show (madeCells #[Value.int .u8 0] n).toList = _
    rw [toList_madeCells_one]
    simp [bcs]
  unfold own
  rw [List.length_replicate, ← e]
  exact h
theorem take_ext (l : List UInt8) (n : Nat) : (⟨l.toArray⟩ : ByteArray).extract 0 n = ⟨(l.take n).toArray⟩ := by
  rw [ByteArray.extract_mk]; simp
set_option maxRecDepth 100000 in
set_option maxHeartbeats 2000000 in
theorem shaSums_any (l : List UInt8) (hl : l.length ≤ 9223372036854775807) (z : Int) (hz : 0 ≤ z ∧ z ≤ 255) (w : World) :
    Calls Try.prog 3 #[.string ⟨l.toArray⟩, .int .u8 z] w fun e w' => e = .returned (.bool true) ∧ Below w.heap.size w w' := by
  obtain ⟨i0, hi, hz0, hz1, hz2⟩ := info_parts info_byte
  obtain ⟨n, hn⟩ : ∃ n : Nat, z % 200 = (n : Int) := ⟨(z % 200).toNat, by omega⟩
  have hn2 : n < 200 := by omega
  obtain ⟨p, hp⟩ : ∃ p, p = l.take 5000 := ⟨_, rfl⟩
  have hpl : p.length ≤ 5000 := by rw [hp, List.length_take]; omega
  have HN := hid hn
  have hex : ∀ m : Nat, (m = 5000 ∨ (m = l.length ∧ l.length ≤ 5000)) → (⟨l.toArray⟩ : ByteArray).extract 0 m = ⟨p.toArray⟩ := by
    intro m hm
    rw [take_ext, hp]
    rcases hm with rfl | ⟨rfl, h⟩
    · rfl
    · rw [List.take_length, List.take_of_length_le h]
  have HEX := hid hex
  clear hn hp hex
  by_cases h5 : l.length ≤ 5000
  all_goals
    go_enter Try.func3, Try.ntmps3
    go_wp2_with (first | (at_make; go_must (refine wpList_make_full w rfl _ _ 22 rfl w.heap.size 5 i0 (.int .u8 0) 1 Try.underlying22 hi hz0 hz1 .i64 .i64 _ _ n rfl rfl HN.out HN.out (by rw [hz2]; omega) (by unfold maxLen; omega) (Nat.le_refl _) ?_); intro w1 how hgr; have ho1 := own_zeros how; have hb1 : Below w.heap.size w w1 := (Below.refl _ _).grown hgr (Nat.le_refl _) (fun k hk => (by cases hk)); clear how hgr) | (refine wpList_text rfl _ rfl (base := w.heap.size) _ (List.replicate n 0) rfl ho1 ?_))
    rw [HEX.out _ (by first | exact Or.inl rfl | exact Or.inr ⟨rfl, h5⟩), show (⟨Array.replicate n 0⟩ : ByteArray) = ⟨(List.replicate n 0).toArray⟩ from by simp, str_app]
    have hz2 : (p ++ List.replicate n 0).length ≤ 6000 := by simp; omega
    generalize p ++ List.replicate n 0 = t at *
    clear ho1
    refine (sum_any p (by omega) _).mono ?_
    rintro e w2 ⟨rfl, c2⟩
    have hb2 := below_all hb1 c2
    clear hb1 c2
    go_wp2_with fail
    refine (refSum_any p (by omega) _).mono ?_
    rintro e w3 ⟨rfl, c3⟩
    have hb3 := below_all hb2 c3
    clear hb2 c3
    go_wp2_with fail
    refine (sum_any t (by omega) _).mono ?_
    rintro e w4 ⟨rfl, c4⟩
    have hb4 := below_all hb3 c4
    clear hb3 c4
    go_wp2_with fail
    refine (refSum_any t (by omega) _).mono ?_
    rintro e w5 ⟨rfl, c5⟩
    have hb5 := below_all hb4 c5
    clear hb4 c5
    go_wp2_with fail
    refine (works1_any _).mono ?_
    rintro e w6 ⟨rfl, c6⟩
    have hb6 := below_all hb5 c6
    clear hb5 c6
    go_wp2
    go_ret
    exact ⟨rfl, hb6⟩
end Go.Proofs.Ytcfohdkdppiekaa
