/- The law TreeTurns: walk. -/
import Derived.Test.YtcfohdkdppiekaaWTreeIs
import Derived.Test.YtcfohdkdppiekaaOpenRows
namespace Go.Proofs.Ytcfohdkdppiekaa
open Go Go.RowKit Go.Proofs Go.ChangeShapes Go.WideShapes
/-- a turn: whose element, and the other one -/
structure TurnR where
  i : { x : Nat // x < 18446744073709551616 }
  s : { l : List UInt8 // l.length ≤ 9223372036854775807 }
instance : Inhabited TurnR := ⟨⟨⟨0, by decide⟩, ⟨[], by decide⟩⟩⟩
def TurnR.cs (t : TurnR) : List Value := [.int .u64 (t.i.1 : Int), .string ⟨t.s.1.toArray⟩]
theorem turn_cellsS : Try.prog.cellsOf 9 = 1 := by kernel_rfl
theorem turn_cellsU : Try.prog.cellsOf 32 = 1 := by kernel_rfl
theorem turn_cells : Try.prog.cellsOf 115 = 2 := by kernel_rfl
section
variable {H : Type} {enc : TypeId × Value → H} {w : World} {spare : Nat → Bool} {held : Bool}
set_option maxRecDepth 100000 in
theorem turn_of (l : List Value) (fuel : Nat) (x : DataW H × List MemPlace) (hl : l.length = 2) (h : DataW.trod enc Try.prog w 0 spare held fuel 115 l = some x) : ∃ t : TurnR, l = t.cs := by
  obtain ⟨ys, n', _, hy, _, hyl, hf⟩ := DataW.trod_struct Try.underlying115 h
  match l, ys, hl, hyl, hf with
  | [k0, k1], [z0, z1], _, _, hf =>
    have f0 : DataW.trod enc Try.prog w 0 spare held n' 32 (([k0, k1].drop 0).take (Try.prog.cellsOf 32)) = some z0 := hf 0 _ rfl
    have f1 : DataW.trod enc Try.prog w 0 spare held n' 9 (([k0, k1].drop 1).take (Try.prog.cellsOf 9)) = some z1 := hf 1 _ rfl
    rw [turn_cellsU] at f0
    rw [turn_cellsS] at f1
    obtain ⟨n0, q0, _, wf0⟩ := DataW.trod_int Try.underlying32 f0
    obtain ⟨s, q1, _, hs⟩ := DataW.trod_string Try.underlying9 f1
    obtain ⟨l1, rfl, hl1⟩ := bytes_list s hs
    have r0 := bounds_u64 wf0
    simp at q0 q1
    refine ⟨⟨⟨n0.toNat, by omega⟩, ⟨l1, hl1⟩⟩, ?_⟩
    have e0 : ((n0.toNat : Nat) : Int) = n0 := Int.toNat_of_nonneg r0.1
    simp only [TurnR.cs]
    rw [q0, q1, e0]
set_option maxRecDepth 100000 in
theorem open_turns {b0 : Nat} {r : Reach} {v : Value} {d : DataW H} {ps : List MemPlace} (hv : Value.okWide Try.prog w r b0 113 v) (h : DataW.Trod enc Try.prog w 0 spare held 113 v d ps) (_ : ∀ x ∈ ps, x.block < w.heap.size) :
    ∃ L : List TurnR, rowsRead w w.heap.size 2 TurnR.cs v L :=
  open_rows TurnR.cs (fun _ => rfl) (by decide) Try.underlying113 turn_cells (fun l f x hl ht => turn_of l f x hl ht) hv h
end
end Go.Proofs.Ytcfohdkdppiekaa
namespace Go.Proofs.Ytcfohdkdppiekaa
open Go Go.RowKit Go.Proofs
attribute [local go_sem] Oper.semAt_some
/-- both trees, of some list -/
structure Pair (w : World) (gt gr : Nat) (L : List (List UInt8)) (W : World) : Prop where
  both : Both w gt gr L W
  len : L.length ≤ 40
  small : ∀ s ∈ L, s.length ≤ 1000000
theorem Pair.quiet {w W W' : World} {gt gr : Nat} {L : List (List UInt8)} (h : Pair w gt gr L W) (hb : Below W.heap.size W W') : Pair w gt gr L W' := ⟨h.both.quiet hb, h.len, h.small⟩
theorem pair_root {w : World} {gt gr : Nat} {L : List (List UInt8)} {W : World} (h : Pair w gt gr L W) : Calls Try.prog 89 #[.pointer (some ⟨gt, 0, none⟩)] W fun e w' => e = .returned (.string ⟨(rootd L).toArray⟩) ∧ w' = W := troot_any gt L W h.both.tree
theorem pair_rroot {w : World} {gt gr : Nat} {L : List (List UInt8)} {W : World} (h : Pair w gt gr L W) : Calls Try.prog 90 #[.pointer (some ⟨gr, 0, none⟩)] W fun e w' => e = .returned (.string ⟨(rootd L).toArray⟩) ∧ Below W.heap.size W w' := rtroot_any gr L (by have := h.len; omega) h.small W h.both.ref
set_option maxRecDepth 100000 in
set_option maxHeartbeats 2000000 in
theorem turns_any (L0 : List (List UInt8)) (v : Value) {w : World} (hv : strsAt w w.heap.size v L0) (TL : List TurnR) (vt : Value) (hvt : rowsRead w w.heap.size 2 TurnR.cs vt TL) :
    Calls Try.prog 24 #[v, vt] w fun e w' => e = .returned (.bool true) ∧ Below w.heap.size w w' := by
  obtain ⟨A2, c2, rfl, hlc2, hc2, hx2⟩ := hvt
  have HX := hid hx2
  have HF := hid (few9_any 40 (by decide) L0 v w hv)
  obtain ⟨⟨A, c, rfl, -⟩, -⟩ := hv
  obtain ⟨L, hL⟩ : ∃ L, L = cuts 40 60 L0 := ⟨_, rfl⟩
  rw [← hL] at HF
  have hl40 : L.length ≤ 40 := by rw [hL, cuts_len]; omega
  have hts : ∀ s ∈ L, s.length ≤ 1000000 := by rw [hL]; exact cuts_small _ _ _ (by decide)
  have HT := hid hts
  have HL := hid hl40
  clear hL hts hl40 hx2
  go_enter Try.func24, Try.ntmps24
  go_wp2_with fail
  refine HF.out.mono ?_
  rintro e w1 ⟨v1, rfl, o1, b1⟩
  obtain ⟨A1, c1, rfl⟩ := row_form o1
  have S1 := hid (o1.strs fun s hs => by have := HT.out s hs; omega)
  have B1 := hid b1
  clear o1 b1 HF
  go_wp2_with fail
  refine (build_any L (by have := HL.out; omega) HT.out _ w1 S1.out).mono ?_
  rintro e w2 ⟨gt, rfl, t2, b2⟩
  have B2 := hid (below_all B1.out b2)
  have T2 := hid t2
  have S2 := hid (S1.out.keep' b2)
  clear t2 b2 S1 B1
  go_wp2_with fail
  refine (rtbuild_rt L (by have := HL.out; omega) HT.out _ w2 S2.out).mono ?_
  rintro e w3 ⟨gr, rfl, r3, b3⟩
  have H3 := hid (Pair.mk (Both.mk (T2.out.keep b3) r3 (below_all B2.out b3)) HL.out HT.out)
  clear r3 b3 S2 B2 T2
  go_wp2_with fail
  go_loopw [5, 7, 9] (fun tp rp i wr => ∃ (n gt gr : Nat) (L : List (List UInt8)), n ≤ TL.length ∧ n ≤ 12 ∧ i = .int .i64 (n : Int) ∧ tp = .pointer (some ⟨gt, 0, none⟩) ∧ rp = .pointer (some ⟨gr, 0, none⟩) ∧ Pair w gt gr L wr) (fun _ _ i _ => 12 - (intOf i).toNat)
  case atStart => exact ⟨0, gt, gr, L, by omega, by omega, rfl, rfl, rfl, H3.out⟩
  case round =>
    clear HL HT H3
    obtain ⟨n, gt, gr, L, hnl, hn12, rfl, rfl, rfl, hb⟩ := hrel
    have HB := hid hb
    clear hb
    by_cases hlk : n < TL.length
    · by_cases h12 : n < 12
      · obtain ⟨t, ht⟩ : ∃ t, TL[n]? = some t := ⟨_, List.getElem?_eq_getElem hlk⟩
        obtain ⟨b, off, rfl, hbw, hcell⟩ := HX.out n t ht
        obtain ⟨⟨i, hi64⟩, ⟨s0, hs0⟩⟩ := t
        have y0 := (HB.out.both.below.cell (p := ⟨b, off + n * 2 + 0, none⟩) hbw).trans (hcell 0 _ rfl)
        have y1 := (HB.out.both.below.cell (p := ⟨b, off + n * 2 + 1, none⟩) hbw).trans (hcell 1 _ rfl)
        rw [Nat.add_zero] at y0
        simp only [] at y0 y1
        have lb : b < wr.heap.size := Nat.lt_of_lt_of_le hbw HB.out.both.below.size
        have hlk' : (n : Int) < (TL.length : Int) := by omega
        have h12' : (n : Int) < 12 := by omega
        have HYY := hid fun (W : World) (hW : Pair w gt gr L W) => (hW.both.below.cell (p := ⟨b, off + n * 2 + 0, none⟩) hbw).trans (hcell 0 _ rfl)
        simp only [Nat.add_zero] at HYY
        clear hcell ht hbw
        obtain ⟨q, hq, hqb, hqc⟩ : ∃ q : Nat, min (s0.length : Int) 60 = (q : Int) ∧ (q = 60 ∨ (q = s0.length ∧ s0.length ≤ 60)) ∧ q ≤ s0.length := by
          by_cases h3 : s0.length ≤ 60
          · exact ⟨s0.length, by omega, Or.inr ⟨rfl, h3⟩, Nat.le_refl _⟩
          · exact ⟨60, by omega, Or.inl rfl, by omega⟩
        have hqa : (if (60 : Int) < (s0.length : Int) then (60 : Int) else (s0.length : Int)) = (q : Int) := by
          rw [← hq]
          split <;> omega
        have HqB := hid hqb
        clear hqb
        have hcut := cut_text s0 60 q HqB.out
        obtain ⟨s, hs⟩ : ∃ s, s = s0.take 60 := ⟨_, rfl⟩
        have hsl : s.length ≤ 1000000 := by rw [hs, List.length_take]; omega
        rw [← hs] at hcut
        clear hs
        go_wp2_with fail
        have H0 := hid (HB.out.quiet (Below.refl wr.heap.size wr).drew)
        clear HB
        refine wp_region_sq (fun X => X = wr.drew) [(true, 0), (true, 1), (true, 2), (true, 3), (true, 4), (true, 5), (true, 6), (true, 7), (true, 8), (true, 9), (true, 10), (true, 11), (true, 12)] 13 rfl (by kernel_rfl) (by kernel_rfl) (by kernel_rfl) (by decide) rfl (by kernel_rfl) rfl ?_
        iterate 13 (refine sq_soft rfl (by kernel_rfl) (fun W hW => (by subst hW; go_simp; try rfl)) ?_; go_frame)
        refine sched_done ?_
        have HLB := hid fun (W : World) (hW : Below wr.heap.size wr W) => Nat.lt_of_lt_of_le lb hW.size
        have l4 := HLB.out _ (Below.refl wr.heap.size wr).drew
        clear y0 y1 lb hcut HLB
        generalize World.drew wr = w4 at H0 l4 ⊢
        have y4 := HYY.out w4 H0.out
        have HL4 := hid l4
        by_cases hiL : i < L.length
        · have hiL2 := hid hiL
          go_wp2_with fail
          refine (twith_any gt L (by have := H0.out.len; omega) i hiL s hsl w4 H0.out.both.tree).mono ?_
          rintro e w5 ⟨gu, rfl, u5, b5⟩
          have H5 := hid (H0.out.quiet b5)
          have U5 := hid u5
          have L5 := hid (Nat.lt_of_lt_of_le HL4.out b5.size)
          clear u5 b5 H0 y4 l4 HL4
          have y5 := HYY.out w5 H5.out
          have l5 := L5.out
          go_wp2_with fail
          refine (rtwith_any gr L (by have := H5.out.len; omega) H5.out.small i hiL s hsl w5 H5.out.both.ref).mono ?_
          rintro e w6 ⟨gv, rfl, v6, b6⟩
          have H6 := hid (H5.out.quiet b6)
          have hM : Pair w gu gv (L.set i s) w6 := by
            refine ⟨⟨U5.out.keep b6, v6, H6.out.both.below⟩, by rw [List.length_set]; exact H6.out.len, ?_⟩
            intro x hx
            rcases List.mem_or_eq_of_mem_set hx with h | h
            · exact H6.out.small x h
            · rw [h]; exact hsl
          obtain ⟨M, hMe⟩ : ∃ M, M = L.set i s := ⟨_, rfl⟩
          rw [← hMe] at hM
          have M6 := hid hM
          clear v6 b6 H5 U5 L5 y5 l5 hM hMe
          obtain ⟨R, hR⟩ : ∃ R, R = rootd L := ⟨_, rfl⟩
          obtain ⟨Q, hQ⟩ : ∃ R, R = rootd M := ⟨_, rfl⟩
          have HR1 : Hid (∀ W, Pair w gt gr L W → Calls Try.prog 89 #[.pointer (some ⟨gt, 0, none⟩)] W fun e w' => e = .returned (.string ⟨R.toArray⟩) ∧ w' = W) := hid fun W hW => by rw [hR]; exact pair_root hW
          have HR2 : Hid (∀ W, Pair w gt gr L W → Calls Try.prog 90 #[.pointer (some ⟨gr, 0, none⟩)] W fun e w' => e = .returned (.string ⟨R.toArray⟩) ∧ Below W.heap.size W w') := hid fun W hW => by rw [hR]; exact pair_rroot hW
          have HQ1 : Hid (∀ W, Pair w gu gv M W → Calls Try.prog 89 #[.pointer (some ⟨gu, 0, none⟩)] W fun e w' => e = .returned (.string ⟨Q.toArray⟩) ∧ w' = W) := hid fun W hW => by rw [hQ]; exact pair_root hW
          have HQ2 : Hid (∀ W, Pair w gu gv M W → Calls Try.prog 90 #[.pointer (some ⟨gv, 0, none⟩)] W fun e w' => e = .returned (.string ⟨Q.toArray⟩) ∧ Below W.heap.size W w') := hid fun W hW => by rw [hQ]; exact pair_rroot hW
          clear hR hQ
          go_wp2_with fail
          refine (HQ1.out w6 M6.out).mono ?_
          rintro e w7 ⟨rfl, h7⟩
          subst w7
          go_wp2_with fail
          refine (HQ2.out w6 M6.out).mono ?_
          rintro e w7 ⟨rfl, b7⟩
          have H7 := hid (H6.out.quiet b7)
          have M7 := hid (M6.out.quiet b7)
          clear b7 H6 M6
          go_wp2_with fail
          refine (HR1.out w7 H7.out).mono ?_
          rintro e w8 ⟨rfl, h8⟩
          subst w8
          go_wp2_with fail
          refine (HR2.out w7 H7.out).mono ?_
          rintro e w8 ⟨rfl, b8⟩
          have M8 := hid (M7.out.quiet b8)
          clear b8 H7 M7
          go_wp2
          go_roundw
          case rel => exact ⟨n + 1, gu, gv, M, by omega, by omega, by go_num, rfl, rfl, M8.out⟩
          case measure => simp [intOf]; omega
        · go_wp2_with fail
          refine (twith_arg gt L (by have := H0.out.len; omega) i (by omega) hi64 s w4 H0.out.both.tree).mono ?_
          rintro e w5 ⟨rfl, b5⟩
          have H5 := hid (H0.out.quiet b5)
          have L5 := hid (Nat.lt_of_lt_of_le HL4.out b5.size)
          clear b5 H0 y4 l4 HL4
          have y5 := HYY.out w5 H5.out
          have l5 := L5.out
          go_wp2_with fail
          refine (rtwith_arg gr L (by have := H5.out.len; omega) i (by omega) hi64 s w5 H5.out.both.ref).mono ?_
          rintro e w6 ⟨rfl, b6⟩
          have H6 := hid (H5.out.quiet b6)
          clear b6 H5 L5 y5 l5
          go_wp2
          go_roundw
          case rel => exact ⟨n + 1, gt, gr, L, by omega, by omega, by go_num, rfl, rfl, H6.out⟩
          case measure => simp [intOf]; omega
      · obtain rfl : n = 12 := by omega
        have hlk' : ((12 : Nat) : Int) < (TL.length : Int) := by omega
        go_wp2_with fail
        refine (works9_any wr).mono ?_
        rintro e w4 ⟨rfl, b4⟩
        have H4 := hid (HB.out.quiet b4)
        clear b4 HB
        go_wp2
        go_ret
        exact ⟨rfl, H4.out.both.below⟩
    · have hlk' : ¬ (n : Int) < (TL.length : Int) := by omega
      go_wp2_with fail
      refine (works9_any wr).mono ?_
      rintro e w4 ⟨rfl, b4⟩
      have H4 := hid (HB.out.quiet b4)
      clear b4 HB
      go_wp2
      go_ret
      exact ⟨rfl, H4.out.both.below⟩
end Go.Proofs.Ytcfohdkdppiekaa
