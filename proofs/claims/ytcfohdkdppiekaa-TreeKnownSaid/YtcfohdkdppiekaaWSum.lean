/- The reference's sum. -/
import Derived.Test.YtcfohdkdppiekaaWPad
import Derived.Test.YtcfohdkdppiekaaTail
import Derived.Lib.Strings
namespace Go.Proofs.Ytcfohdkdppiekaa
open Go.RowKit Go.Proofs
theorem bytes_take (r : St) (k x : Nat) (hk : k < 8) (hx : x = [r.a, r.b, r.c, r.d, r.e, r.f, r.g, r.h].getD k 0) : r.bytes.take (4 * k) ++ b4 x = r.bytes.take (4 * (k + 1)) := by
  subst hx
  match k, hk with
  | 0, _ => rfl
  | 1, _ => rfl
  | 2, _ => rfl
  | 3, _ => rfl
  | 4, _ => rfl
  | 5, _ => rfl
  | 6, _ => rfl
  | 7, _ => rfl
set_option maxRecDepth 100000 in
set_option maxHeartbeats 2000000 in
theorem refSum_any (l : List UInt8) (hl : l.length ≤ 1000000000000) (w : World) :
    Calls Try.prog 31 #[.string ⟨l.toArray⟩] w fun e w' => e = .returned (.string ⟨(sha l).toArray⟩) ∧ Below w.heap.size w w' := by
  go_enter Try.func31, Try.ntmps31
  go_wp2_with (first | (refine wpList_build_at rfl 133 _ rfl st0.cells.toArray (by kernel_rfl) ?_) | (refine wpList_store_arr rfl 133 _ _ rfl _ st0.cells rfl rfl _ _ (arr.new _ _ ((w64 []).take 8)) (by kernel_rfl) rfl (by kernel_rfl) ?_; intro w1 hw1; have HW1 := hid hw1; clear hw1) | (go_at_call 109; refine (padded_any _ hl _).mono ?_; rintro e w2 ⟨rfl, hb2⟩))
  obtain ⟨B, hB⟩ : ∃ B, B = w.heap.size := ⟨_, rfl⟩
  have b1 : Below B w w1 := by rw [HW1.out]; exact below_setRow' ((Below.refl _ _).alloc (by omega) _) (by omega) _
  have b2 : Below B w w2 := below_call b1 hb2 (by have := b1.size; omega)
  have a2 : arr w2 B 133 st0.cells := by
    refine arr.keep ?_ hb2
    rw [HW1.out, hB]
    exact (arr.new _ _ ((w64 []).take 8)).row _
  rw [← hB]
  have HB := hid hB
  clear hB b1 HW1 hb2
  obtain ⟨p, hp⟩ : ∃ p, p = pad l := ⟨_, rfl⟩
  have hpl : p.length % 64 = 0 := by rw [hp]; exact pad_len l
  have hpb : p.length ≤ 2000000000000 := by rw [hp]; simp [pad, b8, nzs]; omega
  rw [← hp]
  have HP := hid hp
  have HPL := hid hpl
  clear hp hpl
  go_loopw [5] (fun i wr => ∃ n : Nat, n ≤ p.length / 64 ∧ i = .int .i64 (64 * (n : Int)) ∧ Below B w wr ∧ arr wr B 133 (blks st0 p n).cells) (fun i _ => p.length - (intOf i).toNat)
  case atStart => exact ⟨0, by omega, rfl, b2, a2⟩
  case round =>
    clear b2 a2
    obtain ⟨n, hn, rfl, hbel, ha⟩ := hrel
    have hok := blks_ok st0 p st0_ok n
    have HOK := hid hok
    clear hok
    by_cases hlt : n < p.length / 64
    · have i1 : 64 * (n : Int) + 64 ≤ (p.length : Int) := by have := HPL.out; omega
      have i2 : 64 * (n : Int) < (p.length : Int) := by omega
      have hbl := ha.lt
      have HSZ : Hid (((⟨p.toArray⟩ : ByteArray).extract (64 * n) (64 * n + 64)).size = 64) := by
        show _ = _
        rw [ByteArray.size_extract]
        show min (64 * n + 64) p.toArray.size - 64 * n = 64
        simp; omega
      have HEX : Hid (((⟨p.toArray⟩ : ByteArray).extract (64 * n) (64 * n + 64)).data.toList = (p.drop (64 * n)).take 64) := by
        show _ = _
        rw [Lib.extract_data]
        simp
      go_wp2
      refine wp_region_later_tail 7 (by kernel_rfl) (by kernel_rfl) ?_
      simp only [List.take_succ_cons, List.take_zero, List.drop_succ_cons, List.drop_zero]
      refine wpQuiet_load_arr rfl 133 _ rfl B rfl 133 (blks st0 p n).cells _ (fun w' ⟨u, hu⟩ => by subst hu; exact ha.keep u.below) Try.underlying133 rfl (St.cells_info _) ?_
      go_frame
      repeat (go_big_quiet_step ((go_at_call 110; exact later_call (block_any _ HOK.out _ HSZ.out _))))
      refine wpQuiet_nil fun u => ?_
      go_wp2_with ((refine wpList_store_arr rfl 133 _ _ rfl _ _ rfl rfl _ _ (ha.keep u.below) (St.cells_info _) ((St.cells_len _).trans (St.cells_len _).symm) (St.cells_one _) ?_; intro w4 hw4; have HW4 := hid hw4; clear hw4))
      go_roundw
      case rel =>
        refine ⟨n + 1, by omega, by go_num, ?_, ?_⟩
        · rw [HW4.out]; exact below_setRow' (below_call hbel u.below (by have := hbel.size; omega)) (by omega) _
        · rw [HW4.out, HEX.out]; exact (ha.keep u.below).row _
      case measure => simp [intOf]; omega
    · have HEN : Hid (n = p.length / 64) := by show _ = _; omega
      have hge : (p.length : Int) ≤ 64 * (n : Int) := by have := HPL.out; omega
      clear hlt hn
      obtain ⟨r, hr⟩ : ∃ r, r = blks st0 p n := ⟨_, rfl⟩
      rw [← hr] at ha
      have HR := hid hr
      clear hr
      obtain ⟨i0, hi, hz0, hz1, hz2⟩ := info_parts info_byte
      go_wp2_with ((at_make; go_must (refine wpList_make_own wr rfl _ _ 22 rfl (B + 1) 5 i0 (.int .u8 0) 1 Try.underlying22 hi hz0 hz1 .i64 .i64 32 32 rfl rfl rfl (by omega) (by unfold maxLen; omega) (Nat.succ_le_of_lt ha.lt) ?_); intro w5 how hgr))
      have ho5 : own w5 (B + 1) (.slice (some ⟨wr.heap.size, 0, none⟩) 0 32) [] := how
      have hb5 : Below wr.heap.size wr w5 := (Below.refl _ _).grown hgr (Nat.le_refl _) (fun k hk => by cases hk)
      have a5 := ha.keep hb5
      have bw5 := below_call hbel hb5 (by have := ha.lt; omega)
      clear hgr hb5 ha hbel how hi hz0 hz1 hz2
      go_wp2
      go_loopw [6, 7] (fun v i wr => ∃ k : Nat, k ≤ 8 ∧ i = .int .i64 k ∧ own wr (B + 1) v (r.bytes.take (4 * k)) ∧ Below B w wr ∧ arr wr B 133 r.cells) (fun _ i _ => 8 - (intOf i).toNat)
      case atStart => exact ⟨0, by omega, rfl, ho5, bw5, a5⟩
      case round =>
        clear ho5 bw5 a5
        obtain ⟨k, hk, rfl, ho, hbel, ha⟩ := hrel
        by_cases hlk : k < 8
        · have hlk' : (k : Int) < 8 := by omega
          obtain ⟨x, hx⟩ : ∃ x, x = [r.a, r.b, r.c, r.d, r.e, r.f, r.g, r.h].getD k 0 := ⟨_, rfl⟩
          have hc := ha.cell k (.int .u32 (x : Int)) (by rw [hx]; exact wcs_get _ k hlk)
          have hbl := ha.lt
          have HX := hid hx
          clear hx
          go_wp2
          refine wp_region_move_tail 19 (by kernel_rfl) (by kernel_rfl) _ rfl rfl (fun _ _ _ h => h) ?_
          simp only [List.take_succ_cons, List.take_zero, List.drop_succ_cons, List.drop_zero]
          go_frame
          repeat (go_big_quiet_step (fail))
          refine wpQuiet_nil fun u => ?_
          have hb6 := u.below
          have ho6 := ho.keep hb6
          have a6 := ha.keep hb6
          have bw6 := below_call hbel hb6 (by have := ha.lt; omega)
          obtain ⟨w6, hw6⟩ : ∃ w6, w6 = later wr u := ⟨_, rfl⟩
          rw [show u.w = w6 from hw6.symm] at hb6 ho6 a6 bw6
          rw [← hw6]
          clear hw6 ho ha hbel hc
          go_wp2_with ((at_builtin; go_must (refine own_append rfl _ _ rfl (B + 1) u6 (r.bytes.take (4 * k)) (b4 x) rfl (ho6.alloc _) w6.heap.size 0 4 rfl (by intro j hj; rw [b4_cells x (b4 x) rfl, Nat.zero_add]; exact (arr.new w6 _ _).cell j _ (bcs_get _ j hj)) (by simp [b4]; omega) (by simp; have := hb6.size; omega) ?_); intro v7 w7 ho7 hg7))
          go_roundw
          case rel =>
            have hs6 := hb6.size
            have hbs : B + 1 ≤ w6.heap.size := by omega
            refine ⟨k + 1, by omega, by go_num, ?_, ?_, ?_⟩
            · rw [← bytes_take r k x hlk HX.out]; exact ho7
            · exact below_own (bw6.alloc (by omega) _) (ho6.alloc _) hg7 (by simp; omega) (by omega)
            · exact arr_own (a6.alloc _) (ho6.alloc _) hg7 (by omega)
          case measure => simp [intOf]; omega
        · obtain rfl : k = 8 := by omega
          have ho8 : own wr (B + 1) u6 r.bytes := ho
          go_wp2_with (refine wpList_text rfl _ rfl (base := B + 1) u6 r.bytes rfl ho8 ?_)
          go_ret
          refine ⟨?_, hbel.mono (by rw [HB.out]; exact Nat.le_refl _)⟩
          rw [HR.out, HEN.out, HP.out]
          rfl
end Go.Proofs.Ytcfohdkdppiekaa
