/- Frames, by the program and by the document: contracts. -/
import Derived.Test.YtcfohdkdppiekaaWNum
import Derived.Test.YtcfohdkdppiekaaWBuild
import Derived.Test.YtcfohdkdppiekaaStrs
import Derived.Test.YtcfohdkdppiekaaTail
namespace Go.Proofs.Ytcfohdkdppiekaa
open Go.RowKit Go.Proofs
set_option maxRecDepth 100000 in
set_option maxHeartbeats 1000000 in
theorem lay_any (B b : Nat) (l p : List UInt8) (w : World) (h : isB w B b l) (hlen : l.length + p.length ≤ 900000000000) (hBw : B ≤ w.heap.size) :
    Calls Try.prog 115 #[.string ⟨p.toArray⟩, .pointer (some ⟨b, 0, none⟩)] w fun e w' => e = .returned (.tuple #[]) ∧ isB w' B b (l ++ b8 p.length ++ p) ∧ Below B w w' := by
  have H := hid h
  clear h
  go_enter Try.func115, Try.ntmps115
  go_wp2_with fail
  refine (num_any _ (by omega) (by omega) _).mono ?_
  rintro e w1 ⟨rfl, c1⟩
  rw [Int.toNat_natCast]
  have H1 := hid (H.out.keep c1)
  have b1 : Below B w w1 := c1.mono hBw
  have hB1 : B ≤ w1.heap.size := Nat.le_trans hBw c1.size
  clear H c1
  go_wp2_with fail
  refine (wstr_any B b l (b8 p.length) _ H1.out (by rw [b8_len]; omega) hB1).mono ?_
  rintro e w2 ⟨rfl, h2, c2⟩
  have H2 := hid h2
  have b2 := b1.trans c2
  have hB2 : B ≤ w2.heap.size := Nat.le_trans hB1 c2.size
  clear H1 h2 c2 b1
  go_wp2_with fail
  refine (wstr_any B b (l ++ b8 p.length) p _ H2.out (by rw [List.length_append, b8_len]; omega) hB2).mono ?_
  rintro e w3 ⟨rfl, h3, c3⟩
  have b3 := b2.trans c3
  have H3 := hid h3
  clear H2 h3 c3 b2
  go_wp2
  go_end0
  exact ⟨rfl, H3.out, b3⟩
theorem fpartsN_le (ps : List (List UInt8)) (k : Nat) {b : Nat} (h : (fparts ps).length ≤ b) : (fpartsN ps k).length ≤ b := by
  have e : fparts ps = fpartsN ps k ++ fparts (ps.drop k) := by unfold fpartsN; rw [← fparts_app, List.take_append_drop]
  rw [e, List.length_append] at h
  omega
set_option maxRecDepth 100000 in
set_option maxHeartbeats 1000000 in
theorem frame_any (tag : List UInt8) (ps : List (List UInt8)) (v : Value) (w : World) (hv : strsAt w w.heap.size v ps) (ht : tag.length ≤ 100000000000) (hp : (fparts ps).length ≤ 100000000000) (hpl : ∀ s ∈ ps, s.length ≤ 100000000000) :
    Calls Try.prog 40 #[.string ⟨tag.toArray⟩, v] w fun e w' => e = .returned (.string ⟨(frm tag ps).toArray⟩) ∧ Below w.heap.size w w' := by
  have HV := hid hv
  have HPL := hid hpl
  clear hv hpl
  by_cases hok : okTag tag
  · rw [frm_ok hok]
    have h0 : tag.isEmpty = false := by
      have := hok.1
      cases tag with
      | nil => simp at this
      | cons _ _ => rfl
    have h16 : (tag.length : Int) ≤ 16 := by have := hok.2; omega
    have h16' : ¬ ((16 : Int) < (tag.length : Int)) := by omega
    have h1 : (0 : Int) < (tag.length : Int) := by have := hok.1; omega
    have HOK := hid hok
    clear hok
    obtain ⟨B, hB⟩ : ∃ B, B = w.heap.size := ⟨_, rfl⟩
    obtain ⟨⟨A, c, rfl, hlc, hc, hx⟩, -⟩ := HV.out
    have HX := hid hx
    clear hx
    go_enter Try.func40, Try.ntmps40
    go_wp2_with fail
    refine (wbyte_any w.heap.size w.heap.size [] _ ?_ _ (isB.new w) (by simp) (by simp)).mono ?_
    · omega
    rintro e w1 ⟨rfl, h1, c1⟩
    rw [Int.toNat_natCast] at h1
    have hs1 : w.heap.size ≤ w1.heap.size := by have := c1.size; simp at this; omega
    have b1 : Below w.heap.size w w1 := ((Below.refl _ _).alloc (Nat.le_refl _) _).trans c1
    clear c1
    go_wp2_with fail
    refine (wstr_any w.heap.size w.heap.size ([] ++ [UInt8.ofNat tag.length]) tag _ h1 (by simp; omega) hs1).mono ?_
    rintro e w2 ⟨rfl, h2, c2⟩
    have b2 := b1.trans c2
    have hs2 : w.heap.size ≤ w2.heap.size := Nat.le_trans hs1 c2.size
    have e0 : [] ++ [UInt8.ofNat tag.length] ++ tag = tag.length.toUInt8 :: tag := by simp
    rw [e0] at h2
    clear h1 c2 b1 hs1 e0
    obtain ⟨S, hS⟩ : ∃ S, S = tag.length.toUInt8 :: tag := ⟨_, rfl⟩
    rw [← hS] at h2
    have hSl : S.length ≤ 20 := by rw [hS, List.length_cons]; omega
    have HS := hid hS
    clear hS
    go_wp2
    go_loopw [25] (fun i wr => ∃ k : Nat, k ≤ ps.length ∧ i = .int .i64 k ∧ isB wr w.heap.size w.heap.size (S ++ fpartsN ps k) ∧ Below w.heap.size w wr) (fun i _ => ps.length - (intOf i).toNat)
    case atStart => exact ⟨0, by omega, rfl, by simpa [fpartsN_zero] using h2, b2⟩
    case round =>
      clear h2 b2 hs2
      obtain ⟨k, hk, rfl, hh, hb⟩ := hrel
      have hs := hb.size
      by_cases hlt : k < ps.length
      · obtain ⟨a, rfl, hab, hcell⟩ := HX.out k hlt
        obtain ⟨p, hp2⟩ : ∃ p, p = ps.getD k [] := ⟨_, rfl⟩
        have hpb : p.length ≤ 100000000000 := by rw [hp2]; exact HPL.out _ (getD_mem ps k hlt)
        have hF : (fpartsN ps k).length ≤ 100000000000 := fpartsN_le ps k hp
        rw [← hp2, ← hb.cell (by rw [block_add]; exact hab)] at hcell
        have HSU := hid (fpartsN_succ ps k hlt)
        rw [← hp2] at HSU
        have hlt' : (k : Int) < (ps.length : Int) := by omega
        clear hp2
        go_wp2_with fail
        refine (lay_any w.heap.size w.heap.size (S ++ fpartsN ps k) p _ hh (by simp; omega) hs).mono ?_
        rintro e w3 ⟨rfl, h3, c3⟩
        have b3 := hb.trans c3
        have H3 := hid h3
        clear hh hb c3 h3 hcell
        go_wp2
        go_roundw
        case rel => exact ⟨k + 1, by omega, by go_num, by rw [HSU.out]; simpa [List.append_assoc] using H3.out, b3⟩
        case measure => simp [intOf]; omega
      · obtain rfl : k = ps.length := by omega
        rw [fpartsN_all] at hh
        have e1 : S ++ fparts ps = frm0 tag ps := by rw [HS.out]; rfl
        rw [e1] at hh
        clear e1
        go_wp2_with fail
        refine (btext_any w.heap.size w.heap.size (frm0 tag ps) _ hh hs).mono ?_
        rintro e w3 ⟨rfl, c3⟩
        have b3 := hb.trans c3
        clear hh hb c3
        go_wp2
        go_ret
        exact ⟨rfl, b3⟩
  · rw [frm_no hok]
    by_cases h0 : tag = []
    · subst h0
      go_enter Try.func40, Try.ntmps40
      go_wp2
      go_ret
      exact ⟨rfl, Below.refl _ _⟩
    · have h1 : tag.isEmpty = false := by
        cases tag with
        | nil => exact absurd rfl h0
        | cons _ _ => rfl
      have h16 : (16 : Int) < (tag.length : Int) := by
        have h2 : tag.length ≠ 0 := fun h => h0 (List.length_eq_zero_iff.1 h)
        unfold okTag at hok
        omega
      clear h0 hok
      go_enter Try.func40, Try.ntmps40
      go_wp2
      go_ret
      exact ⟨rfl, Below.refl _ _⟩
end Go.Proofs.Ytcfohdkdppiekaa
