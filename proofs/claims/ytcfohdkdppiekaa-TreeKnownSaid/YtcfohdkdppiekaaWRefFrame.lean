/- The document's frames: contract. -/
import Derived.Test.YtcfohdkdppiekaaWFrame
namespace Go.Proofs.Ytcfohdkdppiekaa
open Go.RowKit Go.Proofs
set_option maxRecDepth 100000 in
set_option maxHeartbeats 1000000 in
theorem refFrame_any (tag : List UInt8) (ps : List (List UInt8)) (v : Value) (w : World) (hv : strsAt w w.heap.size v ps) (ht : tag.length ≤ 100000000000) (hp : (fparts ps).length ≤ 100000000000) (hpl : ∀ s ∈ ps, s.length ≤ 100000000000) :
    Calls Try.prog 41 #[.string ⟨tag.toArray⟩, v] w fun e w' => e = .returned (.string ⟨(frm tag ps).toArray⟩) ∧ Below w.heap.size w w' := by
  have HV := hid hv
  have HPL := hid hpl
  clear hv hpl
  by_cases hok : okTag tag
  · rw [frm_ok hok]
    have h1 : ¬ ((tag.length : Int) < 1) := by have := hok.1; omega
    have h16 : (tag.length : Int) ≤ 16 := by have := hok.2; omega
    have h16' : ¬ ((16 : Int) < (tag.length : Int)) := by omega
    have kc := fun W : World => conv1 W W.heap.size (tag.length : Int) rfl (by omega) (by omega)
    clear hok
    obtain ⟨⟨A, c, rfl, hlc, hc, hx⟩, -⟩ := HV.out
    have HX := hid hx
    clear hx
    obtain ⟨S, hS⟩ : ∃ S, S = tag.length.toUInt8 :: tag := ⟨_, rfl⟩
    have hSl : S.length ≤ 20 := by rw [hS, List.length_cons]; omega
    have HS := hid hS
    have hcat : (⟨#[UInt8.ofNat tag.length]⟩ : ByteArray) ++ ⟨tag.toArray⟩ = ⟨S.toArray⟩ := by rw [hS]; exact str_app [UInt8.ofNat tag.length] tag
    clear hS
    go_enter Try.func41, Try.ntmps41
    go_wp2
    clear kc hcat
    go_loopw [5, 6] (fun u i wr => ∃ k : Nat, k ≤ ps.length ∧ i = .int .i64 k ∧ u = .string ⟨(S ++ fpartsN ps k).toArray⟩ ∧ Below w.heap.size w wr) (fun _ i _ => ps.length - (intOf i).toNat)
    case atStart => exact ⟨0, by omega, rfl, by simp [fpartsN_zero], (Below.refl _ _).alloc (Nat.le_refl _) _⟩
    case round =>
      obtain ⟨k, hk, rfl, rfl, hb⟩ := hrel
      have hs := hb.size
      by_cases hlt : k < ps.length
      · obtain ⟨a, rfl, hab, hcell⟩ := HX.out k hlt
        have hak : (a.add k).block < wr.heap.size := by rw [block_add]; omega
        obtain ⟨p, hp2⟩ : ∃ p, p = ps.getD k [] := ⟨_, rfl⟩
        have hpb : p.length ≤ 100000000000 := by rw [hp2]; exact HPL.out _ (getD_mem ps k hlt)
        have hF : (fpartsN ps k).length ≤ 100000000000 := fpartsN_le ps k hp
        rw [← hp2, ← hb.cell (by rw [block_add]; exact hab)] at hcell
        have HSU := hid (fpartsN_succ ps k hlt)
        rw [← hp2] at HSU
        have hlt' : (k : Int) < (ps.length : Int) := by omega
        obtain ⟨T, hT⟩ : ∃ T, T = S ++ fpartsN ps k := ⟨_, rfl⟩
        have hTl : T.length ≤ 200000000000 := by rw [hT, List.length_append]; omega
        rw [← hT]
        have HT := hid hT
        have HN := hid (refNum_nat p.length (by omega))
        obtain ⟨q, hq⟩ : ∃ q, q = b8 p.length := ⟨_, rfl⟩
        have hql : q.length ≤ 8 := by rw [hq, b8_len]; exact Nat.le_refl 8
        rw [← hq] at HN HSU
        have c1 : (⟨T.toArray⟩ : ByteArray) ++ ⟨q.toArray⟩ = ⟨(T ++ q).toArray⟩ := str_app _ _
        have c2 : (⟨(T ++ q).toArray⟩ : ByteArray) ++ ⟨p.toArray⟩ = ⟨(T ++ q ++ p).toArray⟩ := str_app _ _
        clear hp2 hT hq
        go_wp2
        refine wp_region_later_lit (by kernel_rfl) (by kernel_rfl) ?_
        repeat (go_big_quiet_step ((go_at_call 45; exact later_call (HN.out _))))
        refine wpQuiet_nil fun w' hw' => ?_
        obtain ⟨u, rfl⟩ := hw'
        have hb6 := u.below
        have b6 := below_all hb hb6
        clear hb hcell
        go_wp2
        go_roundw
        case rel =>
          refine ⟨k + 1, by omega, by go_num, ?_, b6⟩
          rw [HSU.out, HT.out]
          simp [List.append_assoc]
        case measure => simp [intOf]; omega
      · obtain rfl : k = ps.length := by omega
        rw [fpartsN_all]
        have e1 : S ++ fparts ps = frm0 tag ps := by rw [HS.out]; rfl
        rw [e1]
        have hge : ¬ ((ps.length : Int) < (ps.length : Int)) := by omega
        clear e1
        go_wp2
        go_ret
        exact ⟨rfl, hb⟩
  · rw [frm_no hok]
    obtain ⟨⟨A, c, rfl, hlc, hc, hx⟩, -⟩ := HV.out
    clear hx
    by_cases h0 : tag.length < 1
    · have h1 : ((tag.length : Int) < 1) := by omega
      clear h0 hok
      go_enter Try.func41, Try.ntmps41
      go_wp2
      go_ret
      exact ⟨rfl, Below.refl _ _⟩
    · have h1 : ¬ ((tag.length : Int) < 1) := by omega
      have h16 : (16 : Int) < (tag.length : Int) := by
        unfold okTag at hok
        omega
      clear h0 hok
      go_enter Try.func41, Try.ntmps41
      go_wp2
      go_ret
      exact ⟨rfl, Below.refl _ _⟩
end Go.Proofs.Ytcfohdkdppiekaa
