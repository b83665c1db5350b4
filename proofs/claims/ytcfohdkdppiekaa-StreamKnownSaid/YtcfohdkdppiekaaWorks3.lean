/- law03's works: contract. -/
import Derived.Test.YtcfohdkdppiekaaWSeed3
import Derived.Test.YtcfohdkdppiekaaWStreamOps
import Derived.Test.YtcfohdkdppiekaaSoft3
import Derived.Test.YtcfohdkdppiekaaWHashD
namespace Go.Proofs.Ytcfohdkdppiekaa
open Go.RowKit Go.Proofs Go
def sev (k : Nat) : List UInt8 := List.replicate k 7 ++ List.replicate (32 - k) 0
def seven : List UInt8 := List.replicate 32 7
theorem sev_len (k : Nat) (h : k ≤ 32) : (sev k).length = 32 := by unfold sev; rw [List.length_append, List.length_replicate, List.length_replicate]; omega
theorem sev_set (k : Nat) (h : k < 32) : (bcs (sev k)).set k (.int .u8 7) = bcs (sev (k + 1)) := by
  have : ∀ k : Fin 32, (sev k.1).set k.1 7 = sev (k.1 + 1) := by decide
  rw [← this ⟨k, h⟩]
  unfold bcs
  rw [List.map_set]
  rfl
/-- rows that live on -/
structure W3 (w W : World) (g E k : Nat) : Prop where
  str : isS W g seven k
  row : arr W E 5 (bcs seven)
  below : Below w.heap.size w W
  ne : E ≠ g
  hi : w.heap.size ≤ g
theorem W3.quiet {w W W' : World} {g E k : Nat} (h : W3 w W g E k) (hb : Below W.heap.size W W') : W3 w W' g E k := ⟨h.str.keep hb, h.row.keep hb, below_all h.below hb, h.ne, h.hi⟩
theorem W3.draw {w W W' : World} {g E k k' : Nat} (h : W3 w W g E k) (hs : isS W' g seven k') (hg : W.grownBy W' (some g)) : W3 w W' g E k' :=
  ⟨hs, h.row.kept hg h.ne, below_grown h.below hg h.below.size h.hi, h.ne, h.hi⟩
theorem W3.cells {w W : World} {g E k : Nat} (h : W3 w W g E k) (off : Nat) (i : Nat) (hi : off + i < 32) : W.cell? ⟨E, off + i, none⟩ = some (.int .u8 ((seven.getD (off + i) 0).toNat : Int)) := h.row.cell _ _ (bcs_get _ _ hi)
theorem soft_text {o : Oper} {a : Act} {W : World} (x : Operand) (ho : o.op = .convert 22 9 x) (E off n : Nat) (l : List UInt8) (hx : a.eval x = .slice (some ⟨E, off, none⟩) n n) (hl : l.length = n)
    (hc : ∀ i, i < l.length → W.cell? ⟨E, off + i, none⟩ = some (.int .u8 ((l.getD i 0).toNat : Int))) : (execOp a.eval o).run Try.prog W = .ok (.value (.string ⟨l.toArray⟩)) W := by
  have := b2s_run W E off n n l hl (fun i hi => hc i (by omega))
  simp only [execOp, ho, Sem.run_bind, hx, this, Result.andThen_ok, Sem.run_pure]
theorem effsL_done {P : Program} {ops : Array Oper} {Q : Exit → Act → World → Prop} {S : World → Prop} {K : Act → World → Prop} {a : Act} {w : World} (h : K a w) : effsL P ops Q S K [] a w := h
set_option maxRecDepth 100000 in
set_option maxHeartbeats 4000000 in
theorem works3_any (w : World) : Calls Try.prog 63 #[] w fun e w' => e = .returned (.bool true) ∧ Below w.heap.size w w' := by
  go_enter Try.func63, Try.ntmps63
  go_wp2_with (refine wpList_zerosA rfl _ _ rfl 32 rfl rfl (by omega) ?_; intro w1 hA hb1 hlt1; have HA := hid hA; have HB := hid hb1; have HL := hid hlt1; clear hA hb1 hlt1)
  obtain ⟨E, hE⟩ : ∃ E, E = w.heap.size := ⟨_, rfl⟩
  rw [← hE] at HA HL
  rw [← hE]
  have HE := hid hE
  clear hE
  go_loopw [2] (fun i wr => ∃ k : Nat, k ≤ 32 ∧ i = .int .i64 k ∧ Below w.heap.size w wr ∧ arr wr E 5 (bcs (sev k))) (fun i _ => 32 - (intOf i).toNat)
  case atStart => exact ⟨0, by omega, rfl, HB.out, HA.out⟩
  case round =>
    obtain ⟨k, hk, rfl, bw4, a4⟩ := hrel
    by_cases hlk : k < 32
    · have hlk' : (k : Int) < 32 := by omega
      obtain ⟨v0, hv0⟩ : ∃ v, (bcs (sev k))[k]? = some v := ⟨_, bcs_get _ _ (by rw [sev_len _ hk]; omega)⟩
      have c4 := a4.cell k v0 hv0
      have f4 := a4.free k
      clear hv0
      go_wp2
      go_roundw
      case rel =>
        refine ⟨k + 1, by omega, by go_num, bw4.setCell (by simp; rw [HE.out]; omega) _, ?_⟩
        rw [← sev_set _ hlk]
        exact a4.set k _
      case measure => simp [intOf]; omega
    · obtain rfl : k = 32 := by omega
      have a5 : arr wr E 5 (bcs seven) := a4
      have hEl := a5.lt
      have hEw : w.heap.size ≤ E := by rw [HE.out]; exact Nat.le_refl _
      clear HE HA HL HB hk hlk a4
      have A5 := hid a5
      have B5 := hid bw4
      clear a5 bw4
      go_wp2_with (refine wpList_b2s rfl _ rfl E 0 32 32 seven rfl rfl (arr_cells A5.out 0) ?_)
      refine (snew_any seven rfl wr).mono ?_
      rintro e w2 ⟨rfl, hs2, hb2⟩
      obtain ⟨g, hg⟩ : ∃ g, g = wr.heap.size := ⟨_, rfl⟩
      rw [← hg] at hs2
      rw [← hg]
      have S2 : Hid (W3 w w2 g E 0) := hid ⟨hs2, A5.out.keep hb2, below_all B5.out hb2, by omega, by have := B5.out.size; omega⟩
      clear hs2 hb2 hg A5 B5 hEl hEw
      go_wp2_with (refine wpList_b2s rfl _ rfl E 1 31 31 (seven.drop 1) rfl rfl (arr_cells S2.out.row 1) ?_)
      refine (snew_bad (seven.drop 1) (by decide) w2).mono ?_
      rintro e w3 ⟨rfl, rfl⟩
      go_wp2_with fail
      refine (bytes_any g seven rfl 0 32 (by omega) (by omega) w3 S2.out.str).mono ?_
      rintro e w4 ⟨rfl, hs, hgr⟩
      have S4 := hid (S2.out.draw hs hgr)
      clear hs hgr S2
      go_wp2_with fail
      refine (bytes_any g seven rfl 32 0 (by omega) (by omega) w4 S4.out.str).mono ?_
      rintro e w5 ⟨rfl, hs, hgr⟩
      have S5 := hid (S4.out.draw hs hgr)
      clear hs hgr S4
      go_wp2_with fail
      refine (bytes_bad (-1) (by omega) _ w5).mono ?_
      rintro e w6 ⟨rfl, rfl⟩
      go_wp2_with fail
      refine (bytes_bad 65537 (by omega) _ w6).mono ?_
      rintro e w7 ⟨rfl, rfl⟩
      go_wp2_with fail
      refine (place_any g seven 32 w7 S5.out.str).mono ?_
      rintro e w8 ⟨rfl, rfl⟩
      go_wp2_with fail
      refine (sbelow_zero _ w8).mono ?_
      rintro e w9 ⟨rfl, rfl⟩
      go_wp2_with fail
      refine (sbelow_take g seven rfl 32 (by omega) 1 (by omega) (by omega) (by have := su_lt seven 32; unfold topOf; omega) w9 S5.out.str).mono ?_
      rintro e w10 ⟨rfl, hs, hgr⟩
      have S10 := hid (S5.out.draw hs hgr)
      rw [Nat.mod_one]
      clear hs hgr S5
      go_wp2_with fail
      refine wp_region_soft_list (fun W => W3 w W g E 40) [0, 1, 2, 3, 4, 5] [6, 7, 8] 9 rfl (by kernel_rfl) (by kernel_rfl) (by kernel_rfl) (by decide) rfl (by kernel_rfl) (fun o _ _ _ _ h => by cases o <;> exact h) (S10.out.quiet ((Below.refl _ _).drew)) ?_
      have SD : Hid (W3 w w10.drew g E 40) := hid (S10.out.quiet ((Below.refl _ _).drew))
      refine softs_stepG rfl (by kernel_rfl) (v := .int .i64 0) (fun W hW => (by go_simp)) ?_
      refine softs_stepG rfl (by kernel_rfl) (v := .bool true) (fun W hW => (by go_simp)) ?_
      refine softs_stepG rfl (by kernel_rfl) (v := .bool true) (fun W hW => (by go_simp)) ?_
      refine softs_stepG rfl (by kernel_rfl) (v := .string ⟨(sbs seven 0 32).toArray⟩) (fun W hW => (by go_simp)) ?_
      refine softs_stepG rfl (by kernel_rfl) (v := .slice (some ⟨E, 0, none⟩) 32 32) (fun W hW => (by go_simp)) ?_
      refine softs_stepG rfl (by kernel_rfl) (v := .string ⟨seven.toArray⟩) (fun W hW => soft_text _ rfl E 0 32 seven rfl rfl (arr_cells hW.row 0)) ?_
      refine softs_done ?_
      refine effsL_op rfl (by kernel_rfl) ?_
      go_simp
      refine (num_any 0 (by omega) (by omega) _).mono ?_
      rintro e w11 ⟨rfl, hb⟩
      have S11 := hid (SD.out.quiet hb)
      clear hb SD S10
      refine ⟨S11.out, ?_⟩
      refine effsL_op rfl (by kernel_rfl) ?_
      go_simp
      have S12 : Hid (W3 w (w11.alloc (.cells #[.string ⟨seven.toArray⟩, .string ⟨(b8 0).toArray⟩] 9)) g E 40) := hid (S11.out.quiet ((Below.refl _ _).alloc (Nat.le_refl _) _))
      refine ⟨S12.out, ?_⟩
      refine effsL_op rfl (by kernel_rfl) ?_
      go_simp
      refine (hash_any tStream [seven, b8 0] _ _ (strsAt.lit' w11 [seven, b8 0] (by simp [b8_len, seven]) (by simp) 9) (by decide) (by simp [fparts, b8_len, seven]) (by simp [b8_len, seven])).mono ?_
      rintro e w13 ⟨rfl, hb⟩
      have S13 := hid (S12.out.quiet hb)
      clear hb S12 S11
      refine ⟨S13.out, ?_⟩
      have e : sbs seven 0 32 = hsh tStream [seven, b8 0] := sbs_block seven 0
      rw [e]
      clear e
      refine effsL_done ?_
      go_wp2_with fail
      repeat (first | (refine wpList_plain rfl fun K hK => ?_; skip; done) | fail)
      refine (place_any g seven 40 w13 S13.out.str).mono ?_
      rintro e w14 ⟨rfl, rfl⟩
      go_wp2
      go_ret
      exact ⟨rfl, S13.out.below⟩
end Go.Proofs.Ytcfohdkdppiekaa
