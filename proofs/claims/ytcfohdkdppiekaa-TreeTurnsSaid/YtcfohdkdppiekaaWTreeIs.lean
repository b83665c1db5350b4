/- The law TreeIs: walk. -/
import Derived.Test.YtcfohdkdppiekaaWWorks9
import Derived.Test.YtcfohdkdppiekaaWRefTree
namespace Go.Proofs.Ytcfohdkdppiekaa
open Go Go.RowKit Go.Proofs
attribute [local go_sem] Oper.semAt_some
/-- both trees of a list -/
structure Both (w : World) (gt gr : Nat) (L : List (List UInt8)) (W : World) : Prop where
  tree : isTree W gt L
  ref : isRT W gr L
  below : Below w.heap.size w W
theorem Both.quiet {w W W' : World} {gt gr : Nat} {L : List (List UInt8)} (h : Both w gt gr L W) (hb : Below W.heap.size W W') : Both w gt gr L W' := ⟨h.tree.keep hb, h.ref.keep hb, below_all h.below hb⟩
theorem cuts_small (n m : Nat) (L : List (List UInt8)) (hm : m ≤ 1000000) : ∀ s ∈ cuts n m L, s.length ≤ 1000000 := fun s hs => Nat.le_trans (cuts_text n m L s hs) hm
set_option maxRecDepth 100000 in
set_option maxHeartbeats 1000000 in
theorem is_any (L0 : List (List UInt8)) (v : Value) {w : World} (hv : strsAt w w.heap.size v L0) (level : Int) (hlv : -9223372036854775808 ≤ level ∧ level ≤ 9223372036854775807) (kk : Int) (hkk : 0 ≤ kk ∧ kk ≤ 18446744073709551615) :
    Calls Try.prog 23 #[v, .int .i64 level, .int .u64 kk] w fun e w' => e = .returned (.bool true) ∧ Below w.heap.size w w' := by
  obtain ⟨k, rfl⟩ : ∃ k : Nat, kk = (k : Int) := ⟨kk.toNat, by omega⟩
  have hk : k < 18446744073709551616 := by omega
  have HF := hid (few9_any 40 (by decide) L0 v w hv)
  obtain ⟨⟨A, c, rfl, -⟩, -⟩ := hv
  obtain ⟨L, hL⟩ : ∃ L, L = cuts 40 60 L0 := ⟨_, rfl⟩
  rw [← hL] at HF
  have hl40 : L.length ≤ 40 := by rw [hL, cuts_len]; omega
  have hts : ∀ s ∈ L, s.length ≤ 1000000 := by rw [hL]; exact cuts_small _ _ _ (by decide)
  have HT := hid hts
  have HL := hid hl40
  have HLV := hid hlv
  have hl65 : L.length ≤ 65536 := by omega
  have hD16 := dp_16 L.length hl65
  clear hL hts hkk
  go_enter Try.func23, Try.ntmps23
  go_wp2_with fail
  refine HF.out.mono ?_
  rintro e w1 ⟨v1, rfl, o1, b1⟩
  obtain ⟨A1, c1, rfl⟩ := row_form o1
  have S1 := hid (o1.strs fun s hs => by have := HT.out s hs; omega)
  have B1 := hid b1
  clear o1 b1 HF
  go_wp2_with fail
  refine (build_any L hl65 HT.out _ w1 S1.out).mono ?_
  rintro e w2 ⟨gt, rfl, t2, b2⟩
  have B2 := hid (below_all B1.out b2)
  have T2 := hid t2
  have S2 := hid (S1.out.keep' b2)
  clear t2 b2 S1 B1
  go_wp2_with fail
  refine (rtbuild_rt L hl65 HT.out _ w2 S2.out).mono ?_
  rintro e w3 ⟨gr, rfl, r3, b3⟩
  have H3 := hid (Both.mk (T2.out.keep b3) r3 (below_all B2.out b3))
  clear r3 b3 S2 B2 T2
  obtain ⟨R, hR⟩ : ∃ R, R = td L (dp L.length) (dp L.length) 0 := ⟨_, rfl⟩
  have HR1 : Hid (Calls Try.prog 89 #[.pointer (some ⟨gt, 0, none⟩)] w3 fun e w' => e = .returned (.string ⟨R.toArray⟩) ∧ w' = w3) := hid (by rw [hR]; exact troot_any gt L w3 H3.out.tree)
  have HR2 : Hid (Calls Try.prog 90 #[.pointer (some ⟨gr, 0, none⟩)] w3 (Texts w3 R)) := hid (by rw [hR]; exact rtroot_any gr L hl65 HT.out w3 H3.out.ref)
  clear hR
  go_wp2_with fail
  refine HR1.out.mono ?_
  rintro e w4 ⟨rfl, h4⟩
  subst w4
  go_wp2_with fail
  refine HR2.out.mono ?_
  rintro e w4 ⟨rfl, b4⟩
  have H4 := hid (H3.out.quiet b4)
  clear b4 H3 HR1 HR2
  go_wp2_with fail
  refine (tdepth_any gt L w4 H4.out.tree).mono ?_
  rintro e w5 ⟨rfl, h5⟩
  subst w5
  go_wp2_with fail
  refine (rtdepth_any gr L hl65 w4 H4.out.ref).mono ?_
  rintro e w5 ⟨rfl, h5⟩
  subst w5
  go_wp2_with fail
  refine (tlen_any gt L w4 H4.out.tree).mono ?_
  rintro e w5 ⟨rfl, h5⟩
  subst w5
  have HDP := hid fun (W : World) (h : Both w gt gr L W) => rtdepth_any gr L hl65 W h.ref
  obtain ⟨D, hD⟩ : ∃ D, D = dp L.length := ⟨_, rfl⟩
  rw [← hD] at hD16 HDP ⊢
  clear hD
  go_wp2_with fail
  go_loopw [11] (fun i wr => ∃ n : Nat, n ≤ D + 1 ∧ i = .int .i64 (n : Int) ∧ Both w gt gr L wr) (fun i _ => D + 1 - (intOf i).toNat)
  case atStart => exact ⟨0, by omega, rfl, H4.out⟩
  case round =>
    obtain ⟨n, hn, rfl, hb⟩ := hrel
    have HB := hid hb
    clear hb
    go_wp2_with fail
    refine (HDP.out wr HB.out).mono ?_
    rintro e w5 ⟨rfl, h5⟩
    subst w5
    by_cases hnD : n ≤ D
    · have hnI : (n : Int) ≤ (D : Int) := by omega
      obtain ⟨m, hm⟩ : ∃ m, m = D - n := ⟨_, rfl⟩
      have hmI : (D : Int) - (n : Int) = (m : Int) := by omega
      have hm16 : m ≤ 16 := by omega
      obtain ⟨P, hP⟩ : ∃ P, P = 2 ^ m := ⟨_, rfl⟩
      have hPI : (2 : Int) ^ m = (P : Int) := by rw [hP]; exact pow_int m
      have hP16 : P ≤ 65536 := by rw [hP]; exact pow_le16 hm16
      have hPw : IntKind.u64.wrap (P : Int) = (P : Int) := by rw [IntKind.wrap_u64]; omega
      clear hP hm
      go_wp2_with fail
      go_loopw [12] (fun j wq => ∃ q : Nat, q ≤ P + 1 ∧ j = .int .u64 (q : Int) ∧ Both w gt gr L wq) (fun j _ => P + 1 - (intOf j).toNat)
      case atStart => exact ⟨0, by omega, rfl, HB.out⟩
      case round =>
        obtain ⟨q, hq, rfl, hb⟩ := hrel
        have HQ := hid hb
        clear hb
        go_wp2_with fail
        refine (HDP.out wr HQ.out).mono ?_
        rintro e w5 ⟨rfl, h5⟩
        subst w5
        by_cases hqP : q ≤ P
        · have hqI : (q : Int) ≤ (P : Int) := by omega
          obtain ⟨a, b, HA⟩ : ∃ (a : List UInt8) (b : Bool), Hid (∀ W, Both w gt gr L W → Calls Try.prog 94 #[.pointer (some ⟨gt, 0, none⟩), .int .i64 (n : Int), .int .u64 (q : Int)] W (fun e w' => e = .returned (.tuple #[.string ⟨a.toArray⟩, .bool b]) ∧ Below W.heap.size W w') ∧ Calls Try.prog 95 #[.pointer (some ⟨gr, 0, none⟩), .int .i64 (n : Int), .int .u64 (q : Int)] W (fun e w' => e = .returned (.tuple #[.string ⟨a.toArray⟩, .bool b]) ∧ Below W.heap.size W w')) :=
            ⟨_, _, hid fun W hW => ⟨tat_any gt L hl65 n q (by omega) (by omega) W hW.tree, rtat_any gr L hl65 HT.out n q (by omega) (by omega) W hW.ref⟩⟩
          go_wp2_with fail
          refine (HA.out wr HQ.out).1.mono ?_
          rintro e w5 ⟨rfl, b5⟩
          have H5 := hid (HQ.out.quiet b5)
          clear b5 HQ
          go_wp2_with fail
          refine (HA.out w5 H5.out).2.mono ?_
          rintro e w6 ⟨rfl, b6⟩
          have H6 := hid (H5.out.quiet b6)
          clear b6 H5
          go_wp2
          go_roundw
          case rel => exact ⟨q + 1, by omega, by go_num, H6.out⟩
          case measure => simp [intOf]; omega
        · have hqI : ¬ (q : Int) ≤ (P : Int) := by omega
          go_wp2
          go_roundw
          case rel => exact ⟨n + 1, by omega, by go_num, HQ.out⟩
          case measure => simp [intOf]; omega
    · have hnI : ¬ (n : Int) ≤ (D : Int) := by omega
      obtain ⟨a, b, HA⟩ : ∃ (a : List UInt8) (b : Bool), Hid (∀ W, Both w gt gr L W → Calls Try.prog 94 #[.pointer (some ⟨gt, 0, none⟩), .int .i64 level, .int .u64 (k : Int)] W (fun e w' => e = .returned (.tuple #[.string ⟨a.toArray⟩, .bool b]) ∧ Below W.heap.size W w') ∧ Calls Try.prog 95 #[.pointer (some ⟨gr, 0, none⟩), .int .i64 level, .int .u64 (k : Int)] W (fun e w' => e = .returned (.tuple #[.string ⟨a.toArray⟩, .bool b]) ∧ Below W.heap.size W w')) :=
        ⟨_, _, hid fun W hW => ⟨tat_any gt L hl65 level k HLV.out hk W hW.tree, rtat_any gr L hl65 HT.out level k HLV.out hk W hW.ref⟩⟩
      go_wp2_with fail
      refine (HA.out wr HB.out).1.mono ?_
      rintro e w5 ⟨rfl, b5⟩
      have H5 := hid (HB.out.quiet b5)
      clear b5 HB
      go_wp2_with fail
      refine (HA.out w5 H5.out).2.mono ?_
      rintro e w6 ⟨rfl, b6⟩
      have H6 := hid (H5.out.quiet b6)
      clear b6 H5
      go_wp2_with fail
      refine (works9_any w6).mono ?_
      rintro e w7 ⟨rfl, b7⟩
      have H7 := hid (H6.out.quiet b7)
      clear b7 H6
      go_wp2
      go_ret
      exact ⟨rfl, H7.out.below⟩
end Go.Proofs.Ytcfohdkdppiekaa
