/- The law ShaBytes: the walk. -/
import Derived.Test.YtcfohdkdppiekaaWWorks1
import Derived.Test.YtcfohdkdppiekaaWCut
namespace Go.Proofs.Ytcfohdkdppiekaa
open Go.RowKit Go.Proofs
theorem text_to (p : List UInt8) (k : Nat) : (⟨p.toArray⟩ : ByteArray).extract 0 k = ⟨(p.take k).toArray⟩ := by
  rw [ByteArray.extract_mk]; simp
theorem text_one (p : List UInt8) (k : Nat) (hk : k < p.length) : (⟨p.toArray⟩ : ByteArray).extract k (k + 1) = ⟨[p.getD k 0].toArray⟩ := by
  rw [ByteArray.extract_mk]
  congr 2
  rw [List.getD_eq_getElem?_getD, List.getElem?_eq_getElem hk]
  simp [List.take_one, List.head?_drop, List.getElem?_eq_getElem hk]
theorem take_one_more (p : List UInt8) (k : Nat) (hk : k < p.length) : p.take (k + 1) = p.take k ++ [p.getD k 0] := by
  rw [List.take_succ_eq_append_getElem hk, List.getD_eq_getElem?_getD, List.getElem?_eq_getElem hk]; rfl
set_option maxRecDepth 100000 in
set_option maxHeartbeats 2000000 in
theorem shaBytes_any (l : List UInt8) (hl : l.length ≤ 9223372036854775807) (w : World) :
    Calls Try.prog 5 #[.string ⟨l.toArray⟩] w fun e w' => e = .returned (.bool true) ∧ Below w.heap.size w w' := by
  have HEX := hid (cut_text l 300)
  obtain ⟨p, hp⟩ : ∃ p, p = l.take 300 := ⟨_, rfl⟩
  have hpl : p.length ≤ 300 := by rw [hp, List.length_take]; omega
  rw [← hp] at HEX
  clear hp
  by_cases h3 : l.length ≤ 300
  all_goals
    go_enter Try.func5, Try.ntmps5
    go_wp2_with fail
    refine (works1_any _).mono ?_
    rintro e w0 ⟨rfl, hb0⟩
    go_wp2_with fail
    rw [HEX.out _ (by first | exact Or.inl rfl | exact Or.inr ⟨rfl, h3⟩)]
    refine (new_any _).mono ?_
    rintro e w1 ⟨rfl, hh1, c1, hlt1⟩
    obtain ⟨g, hg⟩ : ∃ g, g = w1.heap.size - 1 := ⟨_, rfl⟩
    rw [← hg] at hh1 ⊢
    have hgl : w.heap.size ≤ g := by have := hb0.size; omega
    have hb1 := below_all hb0 c1
    clear hg hlt1 c1 hb0 HEX h3
    go_wp2
    go_loopw [4] (fun i wr => ∃ k : Nat, k ≤ p.length ∧ i = .int .i64 k ∧ isH wr g (p.take k) ∧ Below w.heap.size w wr) (fun i _ => p.length - (intOf i).toNat)
    case atStart => exact ⟨0, by omega, rfl, hh1, hb1⟩
    case round =>
      clear hh1 hb1
      obtain ⟨k, hk, rfl, hh, hbel⟩ := hrel
      obtain ⟨T, hT⟩ : ∃ T, T = p.take k := ⟨_, rfl⟩
      have hTl : T.length = k := by rw [hT, List.length_take]; omega
      rw [← hT] at hh
      have HT := hid hT
      clear hT
      by_cases hlt : k < p.length
      · have hlt' : (k : Int) < (p.length : Int) := by omega
        have hsh := sha_len T
        go_wp2_with fail
        refine (sumH_any T (by omega) g _ hh).mono ?_
        rintro e w2 ⟨rfl, c2⟩
        have hh2 := hh.keep c2
        have hb2 := below_all hbel c2
        clear hh hbel c2
        go_wp2_with fail
        rw [text_to, ← HT.out]
        refine (sum_any T (by omega) _).mono ?_
        rintro e w3 ⟨rfl, c3⟩
        have hh3 := hh2.keep c3
        have hb3 := below_all hb2 c3
        clear hh2 hb2 c3
        go_wp2_with fail
        refine (len_any T g _ hh3).mono ?_
        rintro e w4 ⟨rfl, hw4⟩
        subst hw4
        go_wp2_with fail
        rw [text_one p k hlt]
        refine (write_any T [p.getD k 0] (by simp; omega) g _ hh3).mono ?_
        rintro e w5 ⟨rfl, hh5, hg5⟩
        have hb5 := below_grown hb3 hg5 hb3.size hgl
        clear hh3 hb3 hg5
        go_wp2_with fail
        refine (write_any (T ++ [p.getD k 0]) [] (by simp; omega) g _ hh5).mono ?_
        rintro e w6 ⟨rfl, hh6, hg6⟩
        have hb6 := below_grown hb5 hg6 hb5.size hgl
        clear hh5 hb5 hg6 hsh
        go_wp2
        go_roundw
        case rel => exact ⟨k + 1, by omega, by go_num, by rw [take_one_more p k hlt, ← HT.out, ← List.append_nil (T ++ _)]; exact hh6, hb6⟩
        case measure => simp [intOf]; omega
      · have hk2 : k = p.length := by omega
        have hTp : T = p := by rw [HT.out, hk2, List.take_length]
        clear HT hTl
        subst hTp
        have hge : ¬ ((k : Int) < (T.length : Int)) := by omega
        clear hk2
        go_wp2_with fail
        refine (sumH_any T (by omega) g _ hh).mono ?_
        rintro e w2 ⟨rfl, c2⟩
        have hb2 := below_all hbel c2
        clear hh hbel c2
        go_wp2_with fail
        refine (sum_any T (by omega) _).mono ?_
        rintro e w3 ⟨rfl, c3⟩
        have hb3 := below_all hb2 c3
        clear hb2 c3
        go_wp2
        go_ret
        exact ⟨rfl, hb3⟩
end Go.Proofs.Ytcfohdkdppiekaa
