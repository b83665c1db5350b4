/- The program's block: contract. -/
import Derived.Test.YtcfohdkdppiekaaWShaA
import Derived.Test.YtcfohdkdppiekaaWBlkB
import Derived.Test.YtcfohdkdppiekaaKitP
import Derived.Test.YtcfohdkdppiekaaTail
import Derived.Deep.RegionHeld3
import Derived.Deep.Cut
namespace Go.Proofs.Ytcfohdkdppiekaa
open Go.RowKit Go.Proofs
/-- a hasher's cells: eight words, 64 bytes, and what is behind -/
def hcs (s : St) (q : List UInt8) (tl : List Value) : List Value := s.cells ++ bcs q ++ tl
theorem hcs_word (s : St) (q : List UInt8) (tl : List Value) (i : Nat) (h : i < 8) : (hcs s q tl)[i]? = some (.int .u32 (([s.a, s.b, s.c, s.d, s.e, s.f, s.g, s.h].getD i 0 : Nat) : Int)) := by
  unfold hcs
  rw [List.getElem?_append_left (by simp [St.cells_len]; omega), List.getElem?_append_left (by simpa [St.cells_len] using h)]
  exact wcs_get _ i h
theorem hcs_byte (s : St) (q : List UInt8) (tl : List Value) (i : Nat) (h : i < q.length) : (hcs s q tl)[8 + i]? = some (.int .u8 ((q.getD i 0).toNat : Int)) := by
  unfold hcs
  rw [List.getElem?_append_left (by simp [St.cells_len, bcs_len]; omega), List.getElem?_append_right (by simp [St.cells_len]), St.cells_len, Nat.add_sub_cancel_left]
  exact bcs_get q i h
/-- the first k words are added -/
def mixc (s r : St) (k : Nat) : List Value := (adds s r).cells.take k ++ s.cells.drop k
theorem mixc_len (s r : St) (k : Nat) (hk : k ≤ 8) : (mixc s r k).length = 8 := by simp [mixc, St.cells_len]; omega
theorem mixc_get (s r : St) (k : Nat) (hk : k < 8) : (mixc s r k)[k]? = some (.int .u32 (([s.a, s.b, s.c, s.d, s.e, s.f, s.g, s.h].getD k 0 : Nat) : Int)) := by
  match k, hk with
  | 0, _ => rfl
  | 1, _ => rfl
  | 2, _ => rfl
  | 3, _ => rfl
  | 4, _ => rfl
  | 5, _ => rfl
  | 6, _ => rfl
  | 7, _ => rfl
theorem mixc_set (s r : St) (k : Nat) (hk : k < 8) : (mixc s r k).set k (.int .u32 ((([s.a, s.b, s.c, s.d, s.e, s.f, s.g, s.h].getD k 0 + [r.a, r.b, r.c, r.d, r.e, r.f, r.g, r.h].getD k 0) % 4294967296 : Nat) : Int)) = mixc s r (k + 1) := by
  match k, hk with
  | 0, _ => rfl
  | 1, _ => rfl
  | 2, _ => rfl
  | 3, _ => rfl
  | 4, _ => rfl
  | 5, _ => rfl
  | 6, _ => rfl
  | 7, _ => rfl
theorem nxt_in (a b c d : Nat) : ((a : Int) + ((rr 7 b ^^^ rr 18 b ^^^ b / 8 : Nat) : Int) + (c : Int) + ((rr 17 d ^^^ rr 19 d ^^^ d / 1024 : Nat) : Int)) % 4294967296 = (((a + sg0 b + c + sg1 d) % 4294967296 : Nat) : Int) := by
  simp [sg0, sg1]
theorem hcs_cells (s : St) (q : List UInt8) (tl : List Value) (j : Nat) (v : Value) (h : s.cells[j]? = some v) : (hcs s q tl)[0 + j]? = some v := by
  have hj := (List.getElem?_eq_some_iff.1 h).1
  rw [Nat.zero_add]
  unfold hcs
  rw [List.append_assoc, List.getElem?_append_left hj]; exact h
theorem info_state : (Try.prog.info? 135).map (·.size) = some 8 := by kernel_rfl
theorem St.state_info (s : St) : (Try.prog.info? 135).map (·.size) = some s.cells.length := info_state
theorem chs_in (e f g : Nat) (he : e < 4294967296) (_hf : f < 4294967296) (hg : g < 4294967296) : g ^^^ (e &&& (f ^^^ g)) = chs e f g := by
  unfold chs
  rw [← not_nat e he]
  apply Nat.eq_of_testBit_eq
  intro i
  simp only [Nat.testBit_xor, Nat.testBit_and, Nat.testBit_or]
  rw [show (4294967295 : Nat) = 2 ^ 32 - 1 from rfl, Nat.testBit_two_pow_sub_one]
  rcases Nat.lt_or_ge i 32 with h | h
  · simp only [h, decide_true]
    cases e.testBit i <;> cases f.testBit i <;> cases g.testBit i <;> rfl
  · have hp : (4294967296 : Nat) ≤ 2 ^ i := by rw [show (4294967296 : Nat) = 2 ^ 32 from rfl]; exact Nat.pow_le_pow_right (by decide) h
    have h1 : e.testBit i = false := Nat.testBit_lt_two_pow (Nat.lt_of_lt_of_le he hp)
    have h2 : g.testBit i = false := Nat.testBit_lt_two_pow (Nat.lt_of_lt_of_le hg hp)
    simp [h1, h2]
theorem mjr_in (a b c : Nat) : ((a &&& b) ^^^ (a &&& c)) ^^^ (b &&& c) = mjr a b c := by
  unfold mjr
  apply Nat.eq_of_testBit_eq
  intro i
  simp only [Nat.testBit_xor, Nat.testBit_and, Nat.testBit_or]
  cases a.testBit i <;> cases b.testBit i <;> cases c.testBit i <;> rfl
theorem rnx_in (kk ww : Nat) (r : St) (h : r.ok) :
    IntKind.u32.wrap (IntKind.u32.wrap (IntKind.u32.wrap (IntKind.u32.wrap ((r.h : Int) + (kk : Int)) + (ww : Int)) + ((rr 6 r.e ^^^ rr 11 r.e ^^^ rr 25 r.e : Nat) : Int)) + bits BinOp.xor IntKind.u32 (r.g : Int) (bits BinOp.and IntKind.u32 (r.e : Int) (bits BinOp.xor IntKind.u32 (r.f : Int) (r.g : Int))))
      = ((rnx kk ww r : Nat) : Int) := by
  rw [u32_xor_nat _ _ h.f h.g, u32_and_nat _ _ h.e (xr_lt _ _ h.f h.g), u32_xor_nat _ _ h.g (an_lt _ _ h.e), chs_in _ _ _ h.e h.f h.g]
  simp [IntKind.wrap_u32, rnx, bg1]
theorem rny_in (r : St) (h : r.ok) :
    (((rr 2 r.a ^^^ rr 13 r.a ^^^ rr 22 r.a : Nat) : Int) + bits BinOp.xor IntKind.u32 (bits BinOp.xor IntKind.u32 (bits BinOp.and IntKind.u32 (r.a : Int) (r.b : Int)) (bits BinOp.and IntKind.u32 (r.a : Int) (r.c : Int))) (bits BinOp.and IntKind.u32 (r.b : Int) (r.c : Int))) % 4294967296
      = ((rny r : Nat) : Int) := by
  rw [u32_and_nat _ _ h.a h.b, u32_and_nat _ _ h.a h.c, u32_and_nat _ _ h.b h.c, x3_walk _ _ _ (an_lt _ _ h.a) (an_lt _ _ h.a) (an_lt _ _ h.b), mjr_in]
  simp [rny, bg0]
theorem byte_walk (b0 b1 b2 b3 : UInt8) (l : List UInt8) (k : Nat) (h0 : b0 = l.getD (4 * k) 0) (h1 : b1 = l.getD (4 * k + 1) 0) (h2 : b2 = l.getD (4 * k + 2) 0) (h3 : b3 = l.getD (4 * k + 3) 0) :
    bits BinOp.or IntKind.u32 (bits BinOp.or IntKind.u32 (bits BinOp.or IntKind.u32 ((b0.toNat : Int) % 4294967296 * 16777216 % 4294967296) ((b1.toNat : Int) % 4294967296 * 65536 % 4294967296)) ((b2.toNat : Int) % 4294967296 * 256 % 4294967296)) ((b3.toNat : Int) % 4294967296)
      = ((wrd l k : Nat) : Int) := by
  rw [wrd_walk _ _ _ _ (UInt8.toNat_lt _) (UInt8.toNat_lt _) (UInt8.toNat_lt _) (UInt8.toNat_lt _), h0, h1, h2, h3]
  rfl
set_option maxRecDepth 100000 in
set_option maxHeartbeats 2000000 in
theorem in_any (s : St) (hok : s.ok) (q : List UInt8) (hq : q.length = 64) (tl : List Value) (g T : Nat) (w : World) (hw : arr w g T (hcs s q tl)) :
    Calls Try.prog 112 #[.pointer (some ⟨g, 0, none⟩), .slice (some ⟨g, 8, none⟩) 64 64] w fun e w' => e = .returned (.tuple #[]) ∧ arr w' g T (hcs (blk s q) q tl) ∧ w.grownBy w' (some g) := by
  have HQ := hid hq
  have HOK := hid hok
  clear hq hok
  have hgl := hw.lt
  go_enter Try.func112, Try.ntmps112
  go_wp2
  obtain ⟨B, hB⟩ : ∃ B, B = w.heap.size := ⟨_, rfl⟩
  go_loopw [22] (fun i wr => ∃ k : Nat, k ≤ 16 ∧ i = .int .i64 k ∧ Below B w wr ∧ arr wr g T (hcs s q tl) ∧ arr wr B 200 (w64 (sch0 q k))) (fun i _ => 16 - (intOf i).toNat)
  case atStart => exact ⟨0, by omega, rfl, (Below.refl _ _).alloc (by omega) _, hw.alloc _, arr.newAt _ _ (w64 []) _ hB⟩
  case round =>
    obtain ⟨k, hk, rfl, hbel, hg, ha⟩ := hrel
    rw [← hB] at hgl ⊢
    have HB := hid hB
    clear hB hw
    by_cases hlt : k < 16
    · have hlt' : (k : Int) < 16 := by omega
      have hc := ha.cell k _ (w64_get _ k (by omega))
      have hf := ha.free k
      obtain ⟨b0, hb0⟩ : ∃ b, b = q.getD (4 * k) 0 := ⟨_, rfl⟩
      obtain ⟨b1, hb1⟩ : ∃ b, b = q.getD (4 * k + 1) 0 := ⟨_, rfl⟩
      obtain ⟨b2, hb2⟩ : ∃ b, b = q.getD (4 * k + 2) 0 := ⟨_, rfl⟩
      obtain ⟨b3, hb3⟩ : ∃ b, b = q.getD (4 * k + 3) 0 := ⟨_, rfl⟩
      have g0 := hg.cell (8 + (4 * k)) _ (hcs_byte s q tl (4 * k) (by have := HQ.out; omega))
      have g1 := hg.cell (8 + (4 * k + 1)) _ (hcs_byte s q tl (4 * k + 1) (by have := HQ.out; omega))
      have g2 := hg.cell (8 + (4 * k + 2)) _ (hcs_byte s q tl (4 * k + 2) (by have := HQ.out; omega))
      have g3 := hg.cell (8 + (4 * k + 3)) _ (hcs_byte s q tl (4 * k + 3) (by have := HQ.out; omega))
      rw [← hb0] at g0
      rw [← hb1] at g1
      rw [← hb2] at g2
      rw [← hb3] at g3
      simp only [← Nat.add_assoc] at g1 g2 g3
      have HB0 := hid hb0
      have HB1 := hid hb1
      have HB2 := hid hb2
      have HB3 := hid hb3
      clear hb0 hb1 hb2 hb3
      have hln : 4 * k + 4 - 4 * k = 4 := by omega
      go_wp2
      go_region
      go_wp2
      go_roundw
      case rel =>
        rw [byte_walk b0 b1 b2 b3 q k HB0.out HB1.out HB2.out HB3.out]
        have hset := (ha.set k (.int .u32 ((wrd q k : Nat) : Int))).drew
        have hlen := sch0_len q k
        have hw := w64_set (sch0 q k) (wrd q k) (by omega)
        rw [hlen] at hw
        rw [hw] at hset
        exact ⟨k + 1, by omega, by go_num, (hbel.setCell (by simp) _).drew, (hg.other _ (by simp; omega) _).drew, hset⟩
      case measure => simp [intOf]; omega
    · obtain rfl : k = 16 := by omega
      clear hlt hk
      go_wp2
      go_loopw [8] (fun i wr => ∃ k : Nat, 16 ≤ k ∧ k ≤ 64 ∧ i = .int .i64 k ∧ Below B w wr ∧ arr wr g T (hcs s q tl) ∧ arr wr B 200 (w64 (sch q (k - 16)))) (fun i _ => 64 - (intOf i).toNat)
      case atStart => exact ⟨16, by omega, by omega, rfl, hbel, hg, ha⟩
      case round =>
        clear hbel hg ha
        obtain ⟨k, hk0, hk, rfl, hbel, hg, ha⟩ := hrel
        by_cases hlt : k < 64
        · have hlt' : (k : Int) < 64 := by omega
          have hk' : 16 ≤ (k : Int) := by omega
          have hlen := sch_len q (k - 16)
          have hl := fun i => getD_lt (sch_lt q (k - 16)) i
          obtain ⟨m, hm⟩ : ∃ m, m = sch q (k - 16) := ⟨_, rfl⟩
          rw [← hm] at hlen hl ha
          have c15 := ha.cell (k - 15) _ (w64_get _ (k - 15) (by omega))
          have c16 := ha.cell (k - 16) _ (w64_get _ (k - 16) (by omega))
          have c7 := ha.cell (k - 7) _ (w64_get _ (k - 7) (by omega))
          have c2 := ha.cell (k - 2) _ (w64_get _ (k - 2) (by omega))
          have hbl := ha.lt
          have HM := hid hm
          have HL := hid hl
          have HLEN := hid hlen
          clear hm hl hlen
          have i15 : 0 ≤ (k : Int) - 15 ∧ (k : Int) - 15 < 64 := by omega
          have i16 : 0 ≤ (k : Int) - 16 ∧ (k : Int) - 16 < 64 := by omega
          have i7 : 0 ≤ (k : Int) - 7 ∧ (k : Int) - 7 < 64 := by omega
          have i2 : 0 ≤ (k : Int) - 2 ∧ (k : Int) - 2 < 64 := by omega
          go_wp2
          refine wp_region_later_tail 25 (by kernel_rfl) (by kernel_rfl) ?_
          simp only [List.take_succ_cons, List.take_zero, List.drop_succ_cons, List.drop_zero]
          repeat (go_big_quiet_step ((go_at_call 150; exact later_quiet (mix_any _ (HL.out _) _ _ _ (by decide) (by decide) (by decide) _))))
          refine wpQuiet_nil fun u => ?_
          have hb6 := u.below
          have a6 := ha.keep hb6
          have g6 := hg.keep hb6
          have bw6 := below_call hbel hb6 (by omega)
          obtain ⟨w6, hw6⟩ : ∃ w6, w6 = later wr u := ⟨_, rfl⟩
          rw [show u.w = w6 from hw6.symm] at hb6 a6 g6 bw6
          rw [← hw6]
          clear hw6 c15 c16 c7 c2 hg ha hbel
          have ck := a6.cell k _ (w64_get _ k hlt)
          have cf := a6.free k
          go_wp2
          go_roundw
          case rel =>
            have hl := HL.out
            have hlen := HLEN.out
            have he : k = m.length := by omega
            have hw := w64_set m (nxt m) (by omega)
            have hx : ((nxt m : Nat) : Int) = (((m[k - 16]?.getD 0 + sg0 (m[k - 15]?.getD 0) + m[k - 7]?.getD 0 + sg1 (m[k - 2]?.getD 0)) % 4294967296 : Nat) : Int) := by rw [he]; rfl
            rw [nxt_in, ← hx]
            have e : sch q (k + 1 - 16) = m ++ [nxt m] := by rw [HM.out, show k + 1 - 16 = (k - 16) + 1 by omega]; rfl
            refine ⟨k + 1, by omega, by omega, by go_num, bw6.setCell (by simp) _, g6.other _ (by simp; omega) _, ?_⟩
            rw [e, ← hw, ← he]
            exact a6.set k _
          case measure => simp [intOf]; omega
        · obtain rfl : k = 64 := by omega
          clear hlt hk hk0
          obtain ⟨m, hm⟩ : ∃ m, m = sch q (64 - 16) := ⟨_, rfl⟩
          rw [← hm] at ha
          have HM := hid hm
          clear hm
          have hgs := hg.lt
          obtain ⟨V, hV⟩ : ∃ V, V = wr.heap.size := ⟨_, rfl⟩
          have hbl := ha.lt
          rw [← hV] at hbl hgs
          have HV := hid hV
          go_wp2_with (first | (refine wpList_load_part rfl 135 _ rfl g 0 rfl s.cells _ (fun j v h => hg.cell _ _ (hcs_cells s q tl j v h)) Try.underlying135 rfl (St.state_info s) ?_) | (refine wpList_store_arr rfl 135 _ _ rfl _ s.cells rfl rfl _ _ (arr.new _ _ ((w64 []).take 8)) (St.state_info s) rfl (St.cells_one s) ?_; intro w5 hw5; have HW5 := hid hw5; clear hw5) | (go_at_call 153; refine (consts_any _).mono ?_; rintro e w6 ⟨rfl, hb6⟩))
          have g5 : arr w5 g T (hcs s q tl) := by rw [HW5.out]; exact (hg.alloc _).rowOther (by omega) _
          have a5 : arr w5 B 200 (w64 m) := by rw [HW5.out]; exact (ha.alloc _).rowOther (by omega) _
          have v5 : arr w5 V 135 s.cells := by rw [HW5.out, hV]; exact (arr.new _ _ ((w64 []).take 8)).row _
          have bw5 : Below B w w5 := by rw [HW5.out]; exact below_setRow' (hbel.alloc (by omega) _) (by omega) _
          have g6 := g5.keep hb6
          have a6 := a5.keep hb6
          have v6 := v5.keep hb6
          have bw6 := below_call bw5 hb6 (by have := a5.lt; omega)
          rw [← hV]
          clear hV HW5 hg ha hbel g5 a5 v5 bw5 hb6
          go_loopw [90] (fun i wr => ∃ k : Nat, k ≤ 64 ∧ i = .int .i64 k ∧ Below B w wr ∧ arr wr g T (hcs s q tl) ∧ arr wr B 200 (w64 m) ∧ arr wr V 135 (rns m s k).cells) (fun i _ => 64 - (intOf i).toNat)
          case atStart => exact ⟨0, by omega, rfl, bw6, g6, a6, v6⟩
          case round =>
            clear bw6 g6 a6 v6
            obtain ⟨k, hk, rfl, hbel, hg, ha, hv⟩ := hrel
            have hro := rns_ok (m := m) HOK.out k
            obtain ⟨r, hr⟩ : ∃ r, r = rns m s k := ⟨_, rfl⟩
            rw [← hr] at hro hv
            have HR := hid hr
            have HRO := hid hro
            clear hr hro
            by_cases hlt : k < 64
            · have hlt' : (k : Int) < 64 := by omega
              have ck := wcs_get kon k hlt
              have cw := ha.cell k _ (w64_get _ k hlt)
              obtain ⟨kk, hkk⟩ : ∃ x, x = kon.getD k 0 := ⟨_, rfl⟩
              obtain ⟨ww, hww⟩ : ∃ x, x = m.getD k 0 := ⟨_, rfl⟩
              rw [← hkk] at ck
              rw [← hww] at cw
              have HKK := hid hkk
              have HWW := hid hww
              have hix : ∀ W : World, (Instr.index 200 (.agg (wcs kon).toArray) (.int .i64 (k : Int))).run Try.prog W = .ok (.int .u32 (kk : Int)) W := fun W => run_index_agg W _ 132 64 _ k _ Try.underlying200 (by kernel_rfl) (by kernel_rfl) hlt (by simpa using ck)
              clear hkk hww ck
              have eX := rnx_in kk ww r HRO.out
              have eY := rny_in r HRO.out
              obtain ⟨X, hX⟩ : ∃ X, X = rnx kk ww r := ⟨_, rfl⟩
              obtain ⟨Y, hY⟩ : ∃ Y, Y = rny r := ⟨_, rfl⟩
              rw [← hX] at eX
              rw [← hY] at eY
              have HX := hid hX
              have HY := hid hY
              have EX := hid eX
              have EY := hid eY
              clear hX hY eX eY
              have hvl := hv.lt
              have c0 := hv.cell 0 _ rfl
              have c1 := hv.cell 1 _ rfl
              have c2 := hv.cell 2 _ rfl
              have c4 := hv.cell 4 _ rfl
              have c5 := hv.cell 5 _ rfl
              have c6 := hv.cell 6 _ rfl
              have c7 := hv.cell 7 _ rfl
              have c3 := hv.cell 3 _ rfl
              go_wp2
              go_quiet (fail)
              go_wp2
              go_region_held3 (fun w' => w'.cell? ⟨V, 7, none⟩ = some (.int .u32 (r.h : Int)) ∧ w'.cell? ⟨B, k, none⟩ = some (.int .u32 (ww : Int))) (first | go_keep) (first | (go_at_call 152; refine (turn_any _ HRO.out.e _ 6 11 25 (by decide) (by decide) (by decide) _ ((arr.newAt _ _ [.int .i64 6, .int .i64 11, .int .i64 25] _ rfl).cell 0 _ rfl) ((arr.newAt _ _ [.int .i64 6, .int .i64 11, .int .i64 25] _ rfl).cell 1 _ rfl) ((arr.newAt _ _ [.int .i64 6, .int .i64 11, .int .i64 25] _ rfl).cell 2 _ rfl)).mono ?_; rintro e w' ⟨rfl, rfl⟩))
              go_upto_region 20 with (go_at_call 152; refine (turn_any _ HRO.out.a _ 2 13 22 (by decide) (by decide) (by decide) _ ((arr.newAt _ _ [.int .i64 2, .int .i64 13, .int .i64 22] _ (by simp)).cell 0 _ rfl) ((arr.newAt _ _ [.int .i64 2, .int .i64 13, .int .i64 22] _ (by simp)).cell 1 _ rfl) ((arr.newAt _ _ [.int .i64 2, .int .i64 13, .int .i64 22] _ (by simp)).cell 2 _ rfl)).mono ?_; rintro e w' ⟨rfl, rfl⟩)
              rw [EX.out, EY.out]
              obtain ⟨w7, hw7⟩ : ∃ w7, w7 = ((wr.drewN (nq + 1)).alloc (.cells #[.int .i64 6, .int .i64 11, .int .i64 25] 3)).alloc (.cells #[.int .i64 2, .int .i64 13, .int .i64 22] 3) := ⟨_, rfl⟩
              rw [← hw7]
              have g7 : arr w7 g T (hcs s q tl) := by rw [hw7]; exact ((hg.drewN _).alloc _).alloc _
              have a7 : arr w7 B 200 (w64 m) := by rw [hw7]; exact ((ha.drewN _).alloc _).alloc _
              have v7 : arr w7 V 135 r.cells := by rw [hw7]; exact ((hv.drewN _).alloc _).alloc _
              have bw7 : Below B w w7 := by rw [hw7]; exact ((below_drewN hbel _).alloc (by simp; omega) _).alloc (by simp; omega) _
              clear hw7 hg ha hv hbel c0 c1 c2 c3 c4 c5 c6 c7 cw hix
              have c3 := v7.cell 3 _ rfl
              go_wp2_with (first | (refine wpList_build_at rfl 135 _ rfl (St.mk ((X + Y) % 4294967296) r.a r.b r.c ((r.d + X) % 4294967296) r.e r.f r.g).cells.toArray (by kernel_rfl) ?_) | (refine wpList_store_arr rfl 135 _ _ rfl _ (St.mk ((X + Y) % 4294967296) r.a r.b r.c ((r.d + X) % 4294967296) r.e r.f r.g).cells rfl rfl _ _ v7 (St.state_info _) ((St.cells_len _).trans (St.cells_len _).symm) (St.cells_one _) ?_; intro w8 hw8; have HW8 := hid hw8; clear hw8))
              go_roundw
              case rel =>
                have hr1 : rns m s (k + 1) = St.mk ((X + Y) % 4294967296) r.a r.b r.c ((r.d + X) % 4294967296) r.e r.f r.g := by rw [HX.out, HY.out, HKK.out, HWW.out, HR.out]; rfl
                refine ⟨k + 1, by omega, by go_num, ?_, ?_, ?_, ?_⟩
                · rw [HW8.out]; exact below_setRow' bw7 (by omega) _
                · rw [HW8.out]; exact g7.rowOther (by omega) _
                · rw [HW8.out]; exact a7.rowOther (by omega) _
                · rw [HW8.out, hr1]; exact v7.row _
              case measure => simp [intOf]; omega
            · obtain rfl : k = 64 := by omega
              have hvl := hv.lt
              go_wp2
              go_loopw [158] (fun i wr => ∃ k : Nat, k ≤ 8 ∧ i = .int .i64 k ∧ w.grownBy wr (some g) ∧ arr wr g T (mixc s r k ++ bcs q ++ tl) ∧ arr wr V 135 r.cells) (fun i _ => 8 - (intOf i).toNat)
              case atStart => exact ⟨0, by omega, rfl, grown_below (by rw [← HB.out]; exact hbel), hg, hv⟩
              case round =>
                clear hbel hg ha hv hlt hk
                obtain ⟨k, hk, rfl, hgr, hg, hv⟩ := hrel
                by_cases hlt : k < 8
                · have hlt' : (k : Int) < 8 := by omega
                  obtain ⟨x, hx⟩ : ∃ x, x = [s.a, s.b, s.c, s.d, s.e, s.f, s.g, s.h].getD k 0 := ⟨_, rfl⟩
                  obtain ⟨y, hy⟩ : ∃ y, y = [r.a, r.b, r.c, r.d, r.e, r.f, r.g, r.h].getD k 0 := ⟨_, rfl⟩
                  have cg := hg.cell k (.int .u32 (x : Int)) (by rw [List.append_assoc, List.getElem?_append_left (by rw [mixc_len s r k (by omega)]; omega), hx]; exact mixc_get s r k hlt)
                  have fg := hg.free k
                  have cv := hv.cell k (.int .u32 (y : Int)) (by rw [hy]; exact wcs_get _ k hlt)
                  have HX := hid hx
                  have HY := hid hy
                  clear hx hy
                  go_wp2
                  go_region
                  go_wp2
                  go_roundw
                  case rel =>
                    have hs1 := (hg.set k (.int .u32 (((x + y) % 4294967296 : Nat) : Int))).drew
                    have hl := mixc_len s r k (by omega)
                    rw [List.append_assoc, List.set_append_left _ _ (by omega), HX.out, HY.out, mixc_set s r k hlt, ← HX.out, ← HY.out, ← List.append_assoc] at hs1
                    exact ⟨k + 1, by omega, by go_num, grown_drew (grown_set hgr _ _), hs1, (hv.other _ (by simp; omega) _).drew⟩
                  case measure => simp [intOf]; omega
                · obtain rfl : k = 8 := by omega
                  go_wp2
                  go_end0
                  have e : blk s q = adds s r := by rw [HR.out, HM.out]; rfl
                  refine ⟨rfl, ?_, hgr⟩
                  rw [e]
                  exact hg
end Go.Proofs.Ytcfohdkdppiekaa
