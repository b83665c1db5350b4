/- law09's few, root, works: contracts. -/
import Derived.Test.YtcfohdkdppiekaaWTree4
import Derived.Test.YtcfohdkdppiekaaWCut
namespace Go.Proofs.Ytcfohdkdppiekaa
open Go Go.RowKit Go.Proofs
set_option maxRecDepth 100000 in
set_option maxHeartbeats 1000000 in
theorem few9_any (n : Nat) (hn : n ≤ 1000) (L : List (List UInt8)) (v : Value) (w : World) (hv : strsAt w w.heap.size v L) : Calls Try.prog 86 #[v, .int .i64 (n : Int)] w (GivesS w (cuts n 60 L)) := by
  obtain ⟨⟨A, c, rfl, hlc, hc, hx⟩, ht⟩ := hv
  have HX := hid hx
  have HT := hid ht
  clear hx ht
  go_enter Try.func86, Try.ntmps86
  go_wp2
  go_loopw [5, 6] (fun u i wr => ∃ k : Nat, k ≤ n ∧ k ≤ L.length ∧ i = .int .i64 k ∧ ownS wr w.heap.size u (cuts k 60 L) ∧ Below w.heap.size w wr) (fun _ i _ => n - (intOf i).toNat)
  case atStart => exact ⟨0, by omega, by omega, rfl, ownS.nil _ _, Below.refl _ _⟩
  case round =>
    obtain ⟨k, hkn, hkl, rfl, ho, hbel⟩ := hrel
    by_cases hlt : k < L.length
    · by_cases h20 : k < n
      · obtain ⟨a, rfl, hab, hcell⟩ := HX.out k hlt
        obtain ⟨s, hs⟩ : ∃ s, s = L.getD k [] := ⟨_, rfl⟩
        have hsl : s.length ≤ 9223372036854775807 := by
          rw [hs]
          exact HT.out _ (by rw [List.getD_eq_getElem?_getD, List.getElem?_eq_getElem hlt]; exact List.getElem_mem hlt)
        rw [← hs, ← hbel.cell (by rw [block_add]; exact hab)] at hcell
        have hak : (a.add k).block < wr.heap.size := by rw [block_add]; have := hbel.size; omega
        have HS := hid hs
        have HEX := hid (cut_text s 60)
        have hlt' : (k : Int) < (L.length : Int) := by omega
        have h20' : (k : Int) < (n : Int) := by omega
        clear hs
        obtain ⟨q, hq, hq2, hq3⟩ : ∃ q : Nat, min (s.length : Int) 60 = (q : Int) ∧ (q = 60 ∨ (q = s.length ∧ s.length ≤ 60)) ∧ q ≤ s.length := by
          by_cases h3 : s.length ≤ 60
          · exact ⟨s.length, by omega, Or.inr ⟨rfl, h3⟩, Nat.le_refl _⟩
          · exact ⟨60, by omega, Or.inl rfl, by omega⟩
        have hqa : (if (60 : Int) < (s.length : Int) then (60 : Int) else (s.length : Int)) = (q : Int) := by
          rw [← hq]
          split <;> omega
        have HQ2 := hid hq2
        clear hq2
        all_goals
          go_wp2
          refine wp_region_move_tail 11 (by kernel_rfl) (by kernel_rfl) _ rfl rfl (fun _ _ _ h => h) ?_
          simp only [List.take_succ_cons, List.take_zero, List.drop_succ_cons, List.drop_zero]
          go_frame
          repeat (go_big_quiet_step (fail))
          refine wpQuiet_nil fun u => ?_
          have hb6 := u.below
          have ho6 := ho.keep hb6
          have bw6 := below_call hbel hb6 hbel.size
          obtain ⟨w6, hw6⟩ : ∃ w6, w6 = later wr u := ⟨_, rfl⟩
          rw [show u.w = w6 from hw6.symm] at hb6 ho6 bw6
          rw [← hw6]
          have hl6 : (cuts k 60 L).length ≤ n := by rw [cuts_len]; omega
          clear hw6 ho hbel
          go_wp2_with ((at_builtin; go_must (refine ownS_append rfl _ _ rfl w.heap.size u5 (cuts k 60 L) [s.take 60] rfl (ho6.alloc _) w6.heap.size 0 1 rfl (by intro j hj; obtain rfl : j = 0 := (by simpa using hj); exact (arr.new w6 _ _).cell 0 _ (congrArg (fun b => some (Value.string b)) (HEX.out _ HQ2.out))) (by simp; omega) (by have := bw6.size; simp; omega) ?_); intro v7 w7 ho7 hg7))
          go_roundw
          case rel =>
            have hs6 := bw6.size
            refine ⟨k + 1, by omega, by omega, by go_num, ?_, (ho6.alloc _).below (bw6.alloc (by omega) _) hg7 (by simp; omega) (Nat.le_refl _)⟩
            rw [cuts_succ k 60 L hlt, ← HS.out]; exact ho7
          case measure => simp [intOf]; omega
      · obtain rfl : k = n := by omega
        have h20' : ¬ (k : Int) < (k : Int) := by omega
        have hlt' : (k : Int) < (L.length : Int) := by omega
        go_wp2
        go_ret
        exact ⟨_, rfl, ho, hbel⟩
    · obtain rfl : k = L.length := by omega
      have e : cuts L.length 60 L = cuts n 60 L := by unfold cuts; rw [List.take_of_length_le (Nat.le_refl _), List.take_of_length_le (by omega)]
      rw [e] at ho
      have HO := hid ho
      clear ho e
      go_wp2
      go_ret
      exact ⟨_, rfl, HO.out, hbel⟩

/-- hashes, trees, roots of texts that are just laid -/
theorem hlit_any (tag : List UInt8) (ps : List (List UInt8)) (htag : tag.length ≤ 16) (hps : ∀ s ∈ ps, s.length ≤ 1000000) (hl : ps.length ≤ 10) (w : World) :
    Calls Try.prog 42 #[.string ⟨tag.toArray⟩, .slice (some ⟨w.heap.size, 0, none⟩) ps.length ps.length] (w.alloc (.cells (scs ps).toArray 9 (0, 0))) fun e w' => e = .returned (.string ⟨(hsh tag ps).toArray⟩) ∧ Below w.heap.size w w' := by
  have hf := fparts_len ps 1000000 hps
  have h2 : ps.length * (8 + 1000000) ≤ 10 * 1000008 := Nat.mul_le_mul hl (Nat.le_refl _)
  refine (hash_any tag ps _ _ (strsAt.lit' w ps (fun s hs => by have := hps s hs; omega) (by omega) 9) (by omega) (by omega) (fun s hs => by have := hps s hs; omega)).mono ?_
  rintro e w1 ⟨rfl, b1⟩
  exact ⟨rfl, ((Below.refl _ _).alloc (Nat.le_refl _) _).trans (b1.mono (by simp))⟩
theorem blit_any (ps : List (List UInt8)) (hps : ∀ s ∈ ps, s.length ≤ 1000000) (hl : ps.length ≤ 10) (w : World) :
    Calls Try.prog 87 #[.slice (some ⟨w.heap.size, 0, none⟩) ps.length ps.length] (w.alloc (.cells (scs ps).toArray 9 (0, 0))) (Built w ps) := by
  refine (build_any ps (by omega) hps _ _ (strsAt.lit' w ps (fun s hs => by have := hps s hs; omega) (by omega) 9)).mono ?_
  rintro e w1 ⟨g, rfl, h, b1⟩
  exact ⟨g, rfl, h, ((Below.refl _ _).alloc (Nat.le_refl _) _).trans (b1.mono (by simp))⟩
/-- the root of a list -/
def rootd (L : List (List UInt8)) : List UInt8 := td L (dp L.length) (dp L.length) 0
theorem root9_any (L : List (List UInt8)) (hL : L.length ≤ 65536) (ht : ∀ s ∈ L, s.length ≤ 1000000) (v : Value) (w : World) (hv : strsAt w w.heap.size v L) :
    Calls Try.prog 142 #[v] w fun e w' => e = .returned (.string ⟨(rootd L).toArray⟩) ∧ Below w.heap.size w w' := by
  have HB := hid (build_any L hL ht v w hv)
  obtain ⟨⟨A, c, rfl, hlc, hc, hx⟩, -⟩ := hv
  clear hx hlc hc
  go_enter Try.func142, Try.ntmps142
  go_wp2_with fail
  refine HB.out.mono ?_
  rintro e w1 ⟨g, rfl, hT, b1⟩
  go_wp2_with fail
  refine (troot_any g L w1 hT).mono ?_
  rintro e w2 ⟨rfl, hw⟩
  subst w2
  go_wp2
  go_ret
  exact ⟨rfl, b1⟩
theorem rlit_any (ps : List (List UInt8)) (hps : ∀ s ∈ ps, s.length ≤ 1000000) (hl : ps.length ≤ 10) (w : World) :
    Calls Try.prog 142 #[.slice (some ⟨w.heap.size, 0, none⟩) ps.length ps.length] (w.alloc (.cells (scs ps).toArray 9 (0, 0))) fun e w' => e = .returned (.string ⟨(rootd ps).toArray⟩) ∧ Below w.heap.size w w' := by
  refine (root9_any ps (by omega) hps _ _ (strsAt.lit' w ps (fun s hs => by have := hps s hs; omega) (by omega) 9)).mono ?_
  rintro e w1 ⟨rfl, b1⟩
  exact ⟨rfl, ((Below.refl _ _).alloc (Nat.le_refl _) _).trans (b1.mono (by simp))⟩
theorem dp0 : dp 0 = 0 := by decide +kernel
theorem dp1 : dp 1 = 0 := by decide +kernel
theorem dp2 : dp 2 = 1 := by decide +kernel
theorem dp3 : dp 3 = 2 := by decide +kernel
theorem dp5 : dp 5 = 3 := by decide +kernel
theorem dp65536 : dp 65536 = 16 := by decide +kernel
theorem rootd_nil : rootd [] = noned := by simp [rootd, dp0, td, tleaf]
theorem rootd_a (a : List UInt8) : rootd [a] = leafd a := by simp [rootd, dp1, td, tleaf, rv]
theorem rootd_ab (a b : List UInt8) : rootd [a, b] = noded (leafd a) (leafd b) := by simp [rootd, dp2, td, tleaf, rv]
theorem rootd_abc (a b c : List UInt8) : rootd [a, b, c] = noded (noded (leafd a) (leafd c)) (noded (leafd b) noned) := by simp [rootd, dp3, td, tleaf, rv]
end Go.Proofs.Ytcfohdkdppiekaa
