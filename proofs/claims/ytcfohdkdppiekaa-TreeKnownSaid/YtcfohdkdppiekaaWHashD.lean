/- Hashes of tags and parts, by the program and by the document: contracts. -/
import Derived.Test.YtcfohdkdppiekaaWRefFrame
import Derived.Test.YtcfohdkdppiekaaWShaSum
import Derived.Test.YtcfohdkdppiekaaWSum
namespace Go.Proofs.Ytcfohdkdppiekaa
open Go.RowKit Go.Proofs
/-- a list of texts, just laid -/
theorem strsAt.lit (w : World) (L : List (List UInt8)) (h : ∀ s ∈ L, s.length ≤ 9223372036854775807) (hl : L.length ≤ 9223372036854775807) (T : TypeId) :
    strsAt (w.alloc (.cells (scs L).toArray T (0, 0))) (w.heap.size + 1) (.slice (some ⟨w.heap.size, 0, none⟩) L.length L.length) L := by
  refine ⟨⟨_, _, rfl, Nat.le_refl _, hl, fun i hi => ⟨_, rfl, Nat.lt_succ_self _, ?_⟩⟩, h⟩
  have e : (⟨w.heap.size, 0, none⟩ : Addr).add i = ⟨w.heap.size, i, none⟩ := by unfold Addr.add; split <;> simp_all
  rw [e]
  exact (arr.new w T (scs L)).cell i _ (scs_get L i hi)
theorem strsAt.lit' (w : World) (L : List (List UInt8)) (h : ∀ s ∈ L, s.length ≤ 9223372036854775807) (hl : L.length ≤ 9223372036854775807) (T : TypeId) :
    strsAt (w.alloc (.cells (scs L).toArray T (0, 0))) (w.alloc (.cells (scs L).toArray T (0, 0))).heap.size (.slice (some ⟨w.heap.size, 0, none⟩) L.length L.length) L := by
  have := strsAt.lit w L h hl T
  simpa using this
theorem frm0_len (tag : List UInt8) (ps : List (List UInt8)) : (frm0 tag ps).length = 1 + tag.length + (fparts ps).length := by
  simp [frm0]; omega
set_option maxRecDepth 100000 in
set_option maxHeartbeats 1000000 in
theorem hash_any (tag : List UInt8) (ps : List (List UInt8)) (v : Value) (w : World) (hv : strsAt w w.heap.size v ps) (ht : tag.length ≤ 100000000000) (hp : (fparts ps).length ≤ 100000000000) (hpl : ∀ s ∈ ps, s.length ≤ 100000000000) :
    Calls Try.prog 42 #[.string ⟨tag.toArray⟩, v] w fun e w' => e = .returned (.string ⟨(hsh tag ps).toArray⟩) ∧ Below w.heap.size w w' := by
  have HV := hid hv
  have HPL := hid hpl
  clear hv hpl
  obtain ⟨⟨A, c, rfl, hlc, hc, hx⟩, -⟩ := HV.out
  clear hx
  by_cases hok : okTag tag
  · obtain ⟨F, hF⟩ : ∃ F, F = frm tag ps := ⟨_, rfl⟩
    have e1 : hsh tag ps = sha F := by rw [hF, hsh_ok hok, frm_ok hok]
    have hFe : F.isEmpty = false := by rw [hF, frm_ok hok]; rfl
    have hFl : F.length ≤ 300000000000 := by rw [hF, frm_ok hok, frm0_len]; omega
    rw [e1]
    have HF := hid hF
    clear hF e1 hok
    go_enter Try.func42, Try.ntmps42
    go_wp2_with fail
    refine (frame_any tag ps _ _ HV.out ht hp HPL.out).mono ?_
    rintro e w1 ⟨rfl, c1⟩
    rw [← HF.out]
    go_wp2_with fail
    refine (sum_any F (by omega) _).mono ?_
    rintro e w2 ⟨rfl, c2⟩
    have b2 := below_all c1 c2
    clear c1 c2
    go_wp2
    go_ret
    exact ⟨rfl, b2⟩
  · have e1 : frm tag ps = [] := frm_no hok ps
    rw [hsh_no hok]
    have E := hid e1
    clear e1 hok
    go_enter Try.func42, Try.ntmps42
    go_wp2_with fail
    refine (frame_any tag ps _ _ HV.out ht hp HPL.out).mono ?_
    rintro e w1 ⟨rfl, c1⟩
    rw [E.out]
    go_wp2
    go_ret
    exact ⟨rfl, c1⟩
set_option maxRecDepth 100000 in
set_option maxHeartbeats 1000000 in
theorem refHash_any (tag : List UInt8) (ps : List (List UInt8)) (v : Value) (w : World) (hv : strsAt w w.heap.size v ps) (ht : tag.length ≤ 100000000000) (hp : (fparts ps).length ≤ 100000000000) (hpl : ∀ s ∈ ps, s.length ≤ 100000000000) :
    Calls Try.prog 43 #[.string ⟨tag.toArray⟩, v] w fun e w' => e = .returned (.string ⟨(hsh tag ps).toArray⟩) ∧ Below w.heap.size w w' := by
  have HV := hid hv
  have HPL := hid hpl
  clear hv hpl
  obtain ⟨⟨A, c, rfl, hlc, hc, hx⟩, -⟩ := HV.out
  clear hx
  by_cases hok : okTag tag
  · obtain ⟨F, hF⟩ : ∃ F, F = frm tag ps := ⟨_, rfl⟩
    have e1 : hsh tag ps = sha F := by rw [hF, hsh_ok hok, frm_ok hok]
    have hFe : F.isEmpty = false := by rw [hF, frm_ok hok]; rfl
    have hFl : F.length ≤ 300000000000 := by rw [hF, frm_ok hok, frm0_len]; omega
    rw [e1]
    have HF := hid hF
    clear hF e1 hok
    go_enter Try.func43, Try.ntmps43
    go_wp2_with fail
    refine (refFrame_any tag ps _ _ HV.out ht hp HPL.out).mono ?_
    rintro e w1 ⟨rfl, c1⟩
    rw [← HF.out]
    go_wp2_with fail
    refine (refSum_any F (by omega) _).mono ?_
    rintro e w2 ⟨rfl, c2⟩
    have b2 := below_all c1 c2
    clear c1 c2
    go_wp2
    go_ret
    exact ⟨rfl, b2⟩
  · have e1 : frm tag ps = [] := frm_no hok ps
    rw [hsh_no hok]
    have E := hid e1
    clear e1 hok
    go_enter Try.func43, Try.ntmps43
    go_wp2_with fail
    refine (refFrame_any tag ps _ _ HV.out ht hp HPL.out).mono ?_
    rintro e w1 ⟨rfl, c1⟩
    rw [E.out]
    go_wp2
    go_ret
    exact ⟨rfl, c1⟩
end Go.Proofs.Ytcfohdkdppiekaa
