/- The reference's block: contract. -/
import Derived.Test.YtcfohdkdppiekaaWBlkA
namespace Go.Proofs.Ytcfohdkdppiekaa
open Go.RowKit Go.Proofs
/-- the eight words as cells -/
def St.cells (s : St) : List Value := wcs [s.a, s.b, s.c, s.d, s.e, s.f, s.g, s.h]
theorem St.cells_len (s : St) : s.cells.length = 8 := rfl
theorem St.cells_one (s : St) : s.cells.all (·.oneCell') = true := rfl
theorem info_words : (Try.prog.info? 133).map (·.size) = some 8 := by kernel_rfl
theorem St.cells_info (s : St) : (Try.prog.info? 133).map (·.size) = some s.cells.length := info_words
/-- words, and noughts up to 64 -/
def w64 (m : List Nat) : List Value := wcs (m ++ List.replicate (64 - m.length) 0)
theorem w64_get (m : List Nat) (j : Nat) (hj : j < 64) : (w64 m)[j]? = some (.int .u32 ((m.getD j 0 : Nat) : Int)) := by
  unfold w64 wcs
  rw [List.getElem?_map]
  rcases Nat.lt_or_ge j m.length with h | h
  · rw [List.getElem?_append_left h, List.getD_eq_getElem?_getD, List.getElem?_eq_getElem h]; rfl
  · rw [List.getElem?_append_right h, List.getElem?_replicate, if_pos (by omega), List.getD_eq_getElem?_getD, List.getElem?_eq_none h]; rfl
theorem w64_set (m : List Nat) (x : Nat) (h : m.length < 64) : (w64 m).set m.length (.int .u32 (x : Int)) = w64 (m ++ [x]) := by
  unfold w64 wcs
  have e : 64 - m.length = (64 - (m ++ [x]).length) + 1 := by simp; omega
  rw [e, List.replicate_succ]
  simp
theorem w64_nil : (w64 []).toArray = #[.int .u32 0, .int .u32 0, .int .u32 0, .int .u32 0, .int .u32 0, .int .u32 0, .int .u32 0, .int .u32 0, .int .u32 0, .int .u32 0, .int .u32 0, .int .u32 0, .int .u32 0, .int .u32 0, .int .u32 0, .int .u32 0, .int .u32 0, .int .u32 0, .int .u32 0, .int .u32 0, .int .u32 0, .int .u32 0, .int .u32 0, .int .u32 0, .int .u32 0, .int .u32 0, .int .u32 0, .int .u32 0, .int .u32 0, .int .u32 0, .int .u32 0, .int .u32 0, .int .u32 0, .int .u32 0, .int .u32 0, .int .u32 0, .int .u32 0, .int .u32 0, .int .u32 0, .int .u32 0, .int .u32 0, .int .u32 0, .int .u32 0, .int .u32 0, .int .u32 0, .int .u32 0, .int .u32 0, .int .u32 0, .int .u32 0, .int .u32 0, .int .u32 0, .int .u32 0, .int .u32 0, .int .u32 0, .int .u32 0, .int .u32 0, .int .u32 0, .int .u32 0, .int .u32 0, .int .u32 0, .int .u32 0, .int .u32 0, .int .u32 0, .int .u32 0] := by kernel_rfl
theorem ofNat_get (s : ByteArray) (i : Nat) (h : i < s.size) : (s[i].toNat) = (s.data.toList.getD i 0).toNat := by
  have : s.data.toList.getD i 0 = s[i] := by
    rw [List.getD_eq_getElem?_getD, List.getElem?_eq_getElem (by simpa using h)]; rfl
  rw [this]
set_option maxRecDepth 100000 in
theorem wrd_walk (b0 b1 b2 b3 : Nat) (h0 : b0 < 256) (h1 : b1 < 256) (h2 : b2 < 256) (h3 : b3 < 256) :
    bits BinOp.or IntKind.u32 (bits BinOp.or IntKind.u32 (bits BinOp.or IntKind.u32 ((b0 : Int) % 4294967296 * 16777216 % 4294967296) ((b1 : Int) % 4294967296 * 65536 % 4294967296)) ((b2 : Int) % 4294967296 * 256 % 4294967296)) ((b3 : Int) % 4294967296)
      = ((((b0 * 16777216 ||| b1 * 65536) ||| b2 * 256) ||| b3 : Nat) : Int) := by
  have e0 : ((b0 : Int) % 4294967296 * 16777216 % 4294967296) = ((b0 * 16777216 : Nat) : Int) := by omega
  have e1 : ((b1 : Int) % 4294967296 * 65536 % 4294967296) = ((b1 * 65536 : Nat) : Int) := by omega
  have e2 : ((b2 : Int) % 4294967296 * 256 % 4294967296) = ((b2 * 256 : Nat) : Int) := by omega
  have e3 : ((b3 : Int) % 4294967296) = ((b3 : Nat) : Int) := by omega
  have l0 : b0 * 16777216 < 4294967296 := Nat.lt_of_lt_of_le (Nat.mul_lt_mul_of_pos_right h0 (by decide)) (by decide)
  have l1 : b1 * 65536 < 4294967296 := Nat.lt_of_lt_of_le (Nat.mul_lt_mul_of_pos_right h1 (by decide)) (by decide)
  have l2 : b2 * 256 < 4294967296 := Nat.lt_of_lt_of_le (Nat.mul_lt_mul_of_pos_right h2 (by decide)) (by decide)
  rw [e0, e1, e2, e3, u32_or_nat _ _ l0 l1, u32_or_nat _ _ (or_lt _ _ l0 l1) l2, u32_or_nat _ _ (or_lt _ _ (or_lt _ _ l0 l1) l2) (by omega)]
theorem wrd_at (p : ByteArray) (k : Nat) (h : 4 * k + 3 < p.size) :
    bits BinOp.or IntKind.u32 (bits BinOp.or IntKind.u32 (bits BinOp.or IntKind.u32 (((p[4 * k]'(by omega)).toNat : Int) % 4294967296 * 16777216 % 4294967296) (((p[4 * k + 1]'(by omega)).toNat : Int) % 4294967296 * 65536 % 4294967296)) (((p[4 * k + 2]'(by omega)).toNat : Int) % 4294967296 * 256 % 4294967296)) (((p[4 * k + 3]'(by omega)).toNat : Int) % 4294967296)
      = ((wrd p.data.toList k : Nat) : Int) := by
  rw [wrd_walk _ _ _ _ (UInt8.toNat_lt _) (UInt8.toNat_lt _) (UInt8.toNat_lt _) (UInt8.toNat_lt _)]
  unfold wrd
  rw [ofNat_get p (4 * k) (by omega), ofNat_get p (4 * k + 1) (by omega), ofNat_get p (4 * k + 2) (by omega), ofNat_get p (4 * k + 3) (by omega)]
theorem nxt_walk (a b c d : Nat) (hb : b < 4294967296) (hd : d < 4294967296) :
    ((a : Int) + bits BinOp.xor IntKind.u32 (bits BinOp.xor IntKind.u32 ((rr 7 b : Nat) : Int) ((rr 18 b : Nat) : Int)) ((b : Int) / 8) + (c : Int) + bits BinOp.xor IntKind.u32 (bits BinOp.xor IntKind.u32 ((rr 17 d : Nat) : Int) ((rr 19 d : Nat) : Int)) ((d : Int) / 1024)) % 4294967296
      = (((a + sg0 b + c + sg1 d) % 4294967296 : Nat) : Int) := by
  have e1 : ((b : Int) / 8) = ((b / 8 : Nat) : Int) := by simp
  have e2 : ((d : Int) / 1024) = ((d / 1024 : Nat) : Int) := by simp
  rw [e1, e2, x3_walk _ _ _ (rr_lt _ _ hb) (rr_lt _ _ hb) (dv_lt _ _ hb), x3_walk _ _ _ (rr_lt _ _ hd) (rr_lt _ _ hd) (dv_lt _ _ hd)]
  simp [sg0, sg1]
theorem not_nat (e : Nat) (he : e < 4294967296) : 4294967295 ^^^ e = 4294967295 - e := by
  apply Nat.eq_of_testBit_eq
  intro i
  rw [Nat.testBit_xor, show (4294967295 : Nat) - e = 2 ^ 32 - (e + 1) from by omega, Nat.testBit_two_pow_sub_succ (by omega), show (4294967295 : Nat) = 2 ^ 32 - 1 from rfl, Nat.testBit_two_pow_sub_one]
  rcases Nat.lt_or_ge i 32 with h | h
  · simp [h]
  · have : e.testBit i = false := Nat.testBit_lt_two_pow (Nat.lt_of_lt_of_le he (by rw [show (4294967296 : Nat) = 2 ^ 32 from rfl]; exact Nat.pow_le_pow_right (by decide) h))
    simp [this, Nat.not_lt.2 h]
theorem chs_walk (e f g : Nat) (he : e < 4294967296) (hf : f < 4294967296) (hg : g < 4294967296) :
    bits BinOp.or IntKind.u32 (bits BinOp.and IntKind.u32 (e : Int) (f : Int)) (bits BinOp.and IntKind.u32 (bits BinOp.xor IntKind.u32 (if IntKind.u32.signed = true then -1 else IntKind.u32.max) (e : Int)) (g : Int)) = ((chs e f g : Nat) : Int) := by
  have hm : (if IntKind.u32.signed = true then -1 else IntKind.u32.max) = ((4294967295 : Nat) : Int) := by rfl
  have h1 : 4294967295 - e < 4294967296 := by omega
  rw [hm, u32_xor_nat _ _ (by decide) he, not_nat e he, u32_and_nat _ _ he hf, u32_and_nat _ _ h1 hg, u32_or_nat _ _ (an_lt _ _ he) (an_lt _ _ h1)]
  rfl
theorem mjr_walk (a b c : Nat) (ha : a < 4294967296) (hb : b < 4294967296) (hc : c < 4294967296) :
    bits BinOp.or IntKind.u32 (bits BinOp.or IntKind.u32 (bits BinOp.and IntKind.u32 (a : Int) (b : Int)) (bits BinOp.and IntKind.u32 (a : Int) (c : Int))) (bits BinOp.and IntKind.u32 (b : Int) (c : Int)) = ((mjr a b c : Nat) : Int) := by
  rw [u32_and_nat _ _ ha hb, u32_and_nat _ _ ha hc, u32_and_nat _ _ hb hc, u32_or_nat _ _ (an_lt _ _ ha) (an_lt _ _ ha), u32_or_nat _ _ (or_lt _ _ (an_lt _ _ ha) (an_lt _ _ ha)) (an_lt _ _ hb)]
  rfl
/-- the round's numbers out of the walk -/
theorem rnd_walk (kk ww : Nat) (r : St) (h : r.ok) :
    ((r.h : Int) + (kk : Int) + (ww : Int) + bits BinOp.xor IntKind.u32 (bits BinOp.xor IntKind.u32 ((rr 6 r.e : Nat) : Int) ((rr 11 r.e : Nat) : Int)) ((rr 25 r.e : Nat) : Int) +
      bits BinOp.or IntKind.u32 (bits BinOp.and IntKind.u32 (r.e : Int) (r.f : Int)) (bits BinOp.and IntKind.u32 (bits BinOp.xor IntKind.u32 (if IntKind.u32.signed = true then -1 else IntKind.u32.max) (r.e : Int)) (r.g : Int))) % 4294967296
      = ((rnx kk ww r : Nat) : Int) ∧
    (bits BinOp.xor IntKind.u32 (bits BinOp.xor IntKind.u32 ((rr 2 r.a : Nat) : Int) ((rr 13 r.a : Nat) : Int)) ((rr 22 r.a : Nat) : Int) +
      bits BinOp.or IntKind.u32 (bits BinOp.or IntKind.u32 (bits BinOp.and IntKind.u32 (r.a : Int) (r.b : Int)) (bits BinOp.and IntKind.u32 (r.a : Int) (r.c : Int))) (bits BinOp.and IntKind.u32 (r.b : Int) (r.c : Int))) % 4294967296
      = ((rny r : Nat) : Int) := by
  rw [chs_walk _ _ _ h.e h.f h.g, mjr_walk _ _ _ h.a h.b h.c, x3_walk _ _ _ (rr_lt _ _ h.e) (rr_lt _ _ h.e) (rr_lt _ _ h.e), x3_walk _ _ _ (rr_lt _ _ h.a) (rr_lt _ _ h.a) (rr_lt _ _ h.a)]
  exact ⟨by simp [rnx, bg1], by simp [rny, bg0]⟩
theorem wcs_get (m : List Nat) (j : Nat) (hj : j < m.length) : (wcs m)[j]? = some (.int .u32 ((m.getD j 0 : Nat) : Int)) := by
  unfold wcs
  rw [List.getElem?_map, List.getD_eq_getElem?_getD, List.getElem?_eq_getElem hj]; rfl
set_option maxRecDepth 100000 in
set_option maxHeartbeats 2000000 in
theorem block_any (s : St) (hok : s.ok) (p : ByteArray) (hs : p.size = 64) (w : World) :
    Calls Try.prog 110 #[.agg s.cells.toArray, .string p] w fun e w' => e = .returned (.agg (blk s p.data.toList).cells.toArray) ∧ Below w.heap.size w w' := by
  have hs' : (p.size : Int) ≤ 64 ∧ 64 ≤ (p.size : Int) := by omega
  have HS := hid hs
  have HOK := hid hok
  clear hs hok
  have HC := hid (rfl : s.cells.toArray = #[.int .u32 (s.a : Int), .int .u32 (s.b : Int), .int .u32 (s.c : Int), .int .u32 (s.d : Int), .int .u32 (s.e : Int), .int .u32 (s.f : Int), .int .u32 (s.g : Int), .int .u32 (s.h : Int)])
  rw [HC.out]
  go_enter Try.func110, Try.ntmps110
  go_wp2
  obtain ⟨B, hB⟩ : ∃ B, B = w.heap.size := ⟨_, rfl⟩
  have HB := hid hB
  go_loopw [6] (fun i wr => ∃ k : Nat, k ≤ 16 ∧ i = .int .i64 k ∧ Below B w wr ∧ arr wr B 133 s.cells ∧ arr wr (B + 1) 133 (w64 [] |>.take 8) ∧ arr wr (B + 1 + 1) 200 (w64 (sch0 p.data.toList k))) (fun i _ => 16 - (intOf i).toNat)
  case atStart =>
    refine ⟨0, by omega, rfl, ?_, ?_, ?_, ?_⟩
    · exact (((Below.refl _ _).alloc (by omega) _).alloc (by simp; omega) _).alloc (by simp; omega) _
    · exact ((arr.newAt _ _ s.cells _ hB).alloc _).alloc _
    · exact (arr.newAt _ _ ((w64 []).take 8) _ (by simp; omega)).alloc _
    · exact arr.newAt _ _ (w64 []) _ (by simp; omega)
  case round =>
    obtain ⟨k, hk, rfl, hbel, har0, har1, har⟩ := hrel
    rw [← hB]
    clear hB
    by_cases hlt : k < 16
    · have hlt' : (k : Int) < 16 := by omega
      have hc := har.cell k _ (w64_get _ k (by omega))
      have hf := har.free k
      have i0 : 0 ≤ 4 * (k : Int) ∧ 4 * (k : Int) < p.size := by omega
      have i1 : 0 ≤ 4 * (k : Int) + 1 ∧ 4 * (k : Int) + 1 < p.size := by omega
      have i2 : 0 ≤ 4 * (k : Int) + 2 ∧ 4 * (k : Int) + 2 < p.size := by omega
      have i3 : 0 ≤ 4 * (k : Int) + 3 ∧ 4 * (k : Int) + 3 < p.size := by omega
      go_wp2
      go_region
      go_wp2
      go_roundw
      case rel =>
        have hk2 : 4 * k + 3 < p.size := by omega
        rw [wrd_at p k hk2]
        have hset := (har.set k (.int .u32 ((wrd p.data.toList k : Nat) : Int))).drew
        have hlen := sch0_len p.data.toList k
        have hw := w64_set (sch0 p.data.toList k) (wrd p.data.toList k) (by omega)
        rw [hlen] at hw
        rw [hw] at hset
        exact ⟨k + 1, by omega, by go_num, (hbel.setCell (by simp; omega) _).drew, (har0.other _ (by simp; omega) _).drew, (har1.other _ (by simp) _).drew, hset⟩
      case measure => simp [intOf]; omega
    · obtain rfl : k = 16 := by omega
      go_wp2
      go_loopw [7] (fun i wr => ∃ k : Nat, 16 ≤ k ∧ k ≤ 64 ∧ i = .int .i64 k ∧ Below B w wr ∧ arr wr B 133 s.cells ∧ arr wr (B + 1) 133 (w64 [] |>.take 8) ∧ arr wr (B + 1 + 1) 200 (w64 (sch p.data.toList (k - 16)))) (fun i _ => 64 - (intOf i).toNat)
      case atStart => exact ⟨16, by omega, by omega, rfl, hbel, har0, har1, har⟩
      case round =>
        clear hbel har0 har1 har hlt hk
        obtain ⟨k, hk0, hk, rfl, hbel, har0, har1, har⟩ := hrel
        by_cases hlt : k < 64
        · have hlt' : (k : Int) < 64 := by omega
          have hk' : 16 ≤ (k : Int) := by omega
          have hlen := sch_len p.data.toList (k - 16)
          have c15 := har.cell (k - 15) _ (w64_get _ (k - 15) (by omega))
          have c16 := har.cell (k - 16) _ (w64_get _ (k - 16) (by omega))
          have c7 := har.cell (k - 7) _ (w64_get _ (k - 7) (by omega))
          have c2 := har.cell (k - 2) _ (w64_get _ (k - 2) (by omega))
          have c0 := har.cell k _ (w64_get _ k (by omega))
          have hf := har.free k
          have hl := fun i => getD_lt (sch_lt p.data.toList (k - 16)) i
          obtain ⟨m, hm⟩ : ∃ m, m = sch p.data.toList (k - 16) := ⟨_, rfl⟩
          rw [← hm] at c15 c16 c7 c2 c0 hlen hl har
          have HM := hid hm
          have HL := hid hl
          have HLEN := hid hlen
          clear hm hl hlen
          have i15 : 0 ≤ (k : Int) - 15 ∧ (k : Int) - 15 < 64 := by omega
          have i16 : 0 ≤ (k : Int) - 16 ∧ (k : Int) - 16 < 64 := by omega
          have i7 : 0 ≤ (k : Int) - 7 ∧ (k : Int) - 7 < 64 := by omega
          have i2 : 0 ≤ (k : Int) - 2 ∧ (k : Int) - 2 < 64 := by omega
          go_wp2
          go_quiet ((go_at_call 148; exact Calls.quiet_of (turned_any _ (HL.out _) _ (by decide) _)))
          go_wp2
          go_quiet ((go_at_call 148; exact quiet_add (turned_any _ (HL.out _) _ (by decide) _)))
          go_wp2
          go_region
          go_wp2
          go_roundw
          case rel =>
            have hl := HL.out
            have hlen := HLEN.out
            have he : k = m.length := by omega
            have hw := w64_set m (nxt m) (by omega)
            have hx : ((nxt m : Nat) : Int) = (((m[k - 16]?.getD 0 + sg0 (m[k - 15]?.getD 0) + m[k - 7]?.getD 0 + sg1 (m[k - 2]?.getD 0)) % 4294967296 : Nat) : Int) := by rw [he]; rfl
            rw [nxt_walk (m[k - 16]?.getD 0) (m[k - 15]?.getD 0) (m[k - 7]?.getD 0) (m[k - 2]?.getD 0) (hl _) (hl _), ← hx]
            have e : sch p.data.toList (k + 1 - 16) = m ++ [nxt m] := by rw [HM.out, show k + 1 - 16 = (k - 16) + 1 by omega]; rfl
            refine ⟨k + 1, by omega, by omega, by go_num, (below_drewN hbel _).setCell (by simp; omega) _, (har0.drewN _).other _ (by simp; omega) _, (har1.drewN _).other _ (by simp) _, ?_⟩
            rw [e, ← hw, ← he]
            exact (har.drewN _).set k _
          case measure => simp [intOf]; omega
        · obtain rfl : k = 64 := by omega
          obtain ⟨m, hm⟩ : ∃ m, m = sch p.data.toList (64 - 16) := ⟨_, rfl⟩
          rw [← hm] at har
          have HM := hid hm
          clear hm
          go_wp2_with fail
          refine (constants_any _).mono ?_
          rintro e w3 ⟨rfl, hb3⟩
          have b0 := har0.keep hb3
          have b1 := har1.keep hb3
          have b2 := har.keep hb3
          have bb := below_call hbel hb3 (by have := har0.lt; omega)
          have l2 := b2.lt
          clear hb3 har0 har1 har hbel
          go_wp2_with ((refine wpList_store_arr rfl 200 _ _ rfl _ (wcs kon) rfl rfl _ _ (arr.new _ _ (w64 [])) (by kernel_rfl) rfl (by kernel_rfl) ?_; intro w4 hw4; have HW4 := hid hw4; clear hw4))
          obtain ⟨G, hG⟩ : ∃ G, G = w3.heap.size := ⟨_, rfl⟩
          rw [← hG] at l2
          have HG := hid hG
          go_frame
          have a0 : arr w4 B 133 s.cells := by rw [HW4.out, ← hG]; exact (b0.alloc _).rowOther (by omega) _
          have a1 : arr w4 (B + 1) 133 (w64 [] |>.take 8) := by rw [HW4.out, ← hG]; exact (b1.alloc _).rowOther (by omega) _
          have a2 : arr w4 (B + 1 + 1) 200 (w64 m) := by rw [HW4.out, ← hG]; exact (b2.alloc _).rowOther (by omega) _
          have a3 : arr w4 G 200 (wcs kon) := by rw [HW4.out, hG]; exact (arr.new _ _ (w64 [])).row _
          have bw : Below B w w4 := by rw [HW4.out]; exact below_setRow' (bb.alloc (by omega) _) (by omega) _
          rw [← hG]
          clear HW4 hG b0 b1 b2 bb
          have c0 := a0.cell 0 _ rfl
          have c1 := a0.cell 1 _ rfl
          have c2 := a0.cell 2 _ rfl
          have c3 := a0.cell 3 _ rfl
          have c4 := a0.cell 4 _ rfl
          have c5 := a0.cell 5 _ rfl
          have c6 := a0.cell 6 _ rfl
          have c7 := a0.cell 7 _ rfl
          go_quiet (fail)
          go_wp2
          go_quiet (fail)
          go_wp2
          clear c0 c1 c2 c3 c4 c5 c6 c7 hlt hk0 hk
          go_loopw [11, 12, 13, 14, 15, 16, 17, 18, 19] (fun va vb vc vd ve vf vg vh i wr => ∃ k : Nat, k ≤ 64 ∧ i = .int .i64 k ∧ va = .int .u32 (((rns m s k).a : Nat) : Int) ∧ vb = .int .u32 (((rns m s k).b : Nat) : Int) ∧ vc = .int .u32 (((rns m s k).c : Nat) : Int) ∧ vd = .int .u32 (((rns m s k).d : Nat) : Int) ∧ ve = .int .u32 (((rns m s k).e : Nat) : Int) ∧ vf = .int .u32 (((rns m s k).f : Nat) : Int) ∧ vg = .int .u32 (((rns m s k).g : Nat) : Int) ∧ vh = .int .u32 (((rns m s k).h : Nat) : Int) ∧ Below B w wr ∧ arr wr B 133 s.cells ∧ arr wr (B + 1) 133 (w64 [] |>.take 8) ∧ arr wr (B + 1 + 1) 200 (w64 m) ∧ arr wr G 200 (wcs kon)) (fun _ _ _ _ _ _ _ _ i _ => 64 - (intOf i).toNat)
          case atStart => exact ⟨0, by omega, rfl, rfl, rfl, rfl, rfl, rfl, rfl, rfl, rfl, below_drewN (below_drewN bw _) _, (a0.drewN _).drewN _, (a1.drewN _).drewN _, (a2.drewN _).drewN _, (a3.drewN _).drewN _⟩
          case round =>
            clear a0 a1 a2 a3 bw
            obtain ⟨k, hk, rfl, rfl, rfl, rfl, rfl, rfl, rfl, rfl, rfl, bw, a0, a1, a2, a3⟩ := hrel
            have hro := rns_ok (m := m) HOK.out k
            obtain ⟨r, hr⟩ : ∃ r, r = rns m s k := ⟨_, rfl⟩
            rw [← hr] at hro ⊢
            have HR := hid hr
            have HRO := hid hro
            clear hr hro
            by_cases hlt : k < 64
            · have hlt' : (k : Int) < 64 := by omega
              have ck := a3.cell k (.int .u32 ((kon.getD k 0 : Nat) : Int)) (wcs_get kon k hlt)
              have cw := a2.cell k _ (w64_get _ k hlt)
              obtain ⟨kk, hkk⟩ : ∃ x, x = kon.getD k 0 := ⟨_, rfl⟩
              obtain ⟨ww, hww⟩ : ∃ x, x = m.getD k 0 := ⟨_, rfl⟩
              rw [← hkk] at ck
              rw [← hww] at cw
              have HKK := hid hkk
              have HWW := hid hww
              clear hkk hww
              go_wp2
              go_quiet ((go_at_call 148; exact Calls.quiet_of (turned_any _ HRO.out.e _ (by decide) _)))
              go_wp2_with (go_at_call 148; refine (turned_any _ HRO.out.a _ (by decide) _).mono ?_; rintro e w' ⟨rfl, kd, rfl⟩)
              go_roundw
              case rel =>
                have hr1 : rns m s (k + 1) = rnd kk ww r := by rw [HKK.out, HWW.out, HR.out]; rfl
                rw [(rnd_walk kk ww r HRO.out).1, (rnd_walk kk ww r HRO.out).2]
                refine ⟨k + 1, by omega, by go_num, ?_⟩
                rw [hr1]
                exact ⟨rfl, rfl, rfl, rfl, rfl, rfl, rfl, rfl, below_drewN bw _, a0.drewN _, a1.drewN _, a2.drewN _, a3.drewN _⟩
              case measure => simp [intOf]; omega
            · obtain rfl : k = 64 := by omega
              have c0 := a0.cell 0 _ rfl
              have c1 := a0.cell 1 _ rfl
              have c2 := a0.cell 2 _ rfl
              have c3 := a0.cell 3 _ rfl
              have c4 := a0.cell 4 _ rfl
              have c5 := a0.cell 5 _ rfl
              have c6 := a0.cell 6 _ rfl
              have c7 := a0.cell 7 _ rfl
              go_wp2_with (first | (refine wpList_build_at rfl 133 _ rfl (adds s r).cells.toArray (by kernel_rfl) ?_) | (refine wpList_store_arr rfl 133 _ _ rfl _ (adds s r).cells rfl rfl _ _ a1 (by kernel_rfl) rfl (by kernel_rfl) ?_; intro w5 hw5))
              subst hw5
              have e : blk s p.data.toList = adds s r := by rw [HR.out, HM.out]; rfl
              refine bodyPost_ret (arr.results rfl _ _ (B + 1) _ _ _ rfl (a1.row _) Try.underlying133 rfl (by kernel_rfl)) rfl ⟨by rw [e], ?_⟩
              exact (below_setRow' bw (by omega) _).mono (by rw [HB.out]; exact Nat.le_refl _)
end Go.Proofs.Ytcfohdkdppiekaa
