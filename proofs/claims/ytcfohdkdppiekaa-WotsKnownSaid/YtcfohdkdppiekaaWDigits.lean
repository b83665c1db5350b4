/- A digest's digits: contracts. -/
import Derived.Test.YtcfohdkdppiekaaSpecWots
import Derived.Test.YtcfohdkdppiekaaKitP
import Derived.Test.YtcfohdkdppiekaaSchedIn
namespace Go.Proofs.Ytcfohdkdppiekaa
open Go Go.RowKit Go.Proofs
/-- numbers as cells -/
def ics (l : List Nat) : List Value := l.map fun x : Nat => .int .i64 (x : Int)
theorem ics_len (l : List Nat) : (ics l).length = l.length := by simp [ics]
theorem ics_get (l : List Nat) (i : Nat) (h : i < l.length) : (ics l)[i]? = some (.int .i64 ((l.getD i 0 : Nat) : Int)) := by
  unfold ics
  rw [List.getElem?_map, List.getD_eq_getElem?_getD, List.getElem?_eq_getElem h]; rfl
/-- the first k digits, and noughts -/
def dz (d : List UInt8) (k : Nat) : List Nat := (List.range k).map (dg d) ++ List.replicate (67 - k) 0
theorem dz_len (d : List UInt8) (k : Nat) (hk : k ≤ 67) : (dz d k).length = 67 := by simp [dz]; omega
theorem dz_set (d : List UInt8) (k : Nat) (hk : k < 67) : (ics (dz d k)).set k (.int .i64 (dg d k : Nat)) = ics (dz d (k + 1)) := by
  have e : dz d (k + 1) = (dz d k).set k (dg d k) := by
    unfold dz
    rw [List.set_append_right _ _ (by simp), List.length_map, List.length_range, Nat.sub_self, show 67 - k = (67 - (k + 1)) + 1 by omega, List.range_succ, List.map_append, List.append_assoc]
    rfl
  rw [e]
  unfold ics
  rw [List.map_set]
theorem dg_two (d : List UInt8) (k : Nat) (h : k % 2 = 0) : dg d k = (d.getD (k / 2) 0).toNat / 16 := by unfold dg; rw [if_pos h]
theorem dg_odd (d : List UInt8) (k : Nat) (h : ¬ k % 2 = 0) : dg d k = (d.getD (k / 2) 0).toNat % 16 := by unfold dg; rw [if_neg h]
/-- the last n of the digits of what is lacking -/
def cmp : Nat → Nat → List Nat → List Nat
  | 0, _, l => l
  | n + 1, q, l => cmp n (q / 16) (l.set (64 + n) (q % 16))
theorem cmp_digs (d : List UInt8) : cmp 3 (lack d 64) (dz d 64) = digs d := by
  have hg := lack_le d 64
  have e : dz d 64 = (List.range 64).map (dg d) ++ [0, 0, 0] := rfl
  have hl : ((List.range 64).map (dg d)).length = 64 := by simp
  simp only [cmp]
  rw [e, List.set_append_right _ _ (by rw [hl]; omega), List.set_append_right _ _ (by rw [hl]; omega), List.set_append_right _ _ (by rw [hl]; omega), hl]
  unfold digs
  congr 1
  have e2 : lack d 64 / 16 / 16 % 16 = lack d 64 / 256 := by omega
  rw [e2]
  rfl
theorem bits_hi_all : ∀ n : Fin 256, bits BinOp.and IntKind.u8 ((n.1 : Int) / 16) 15 = ((n.1 / 16 : Nat) : Int) := by decide +kernel
theorem bits_lo_all : ∀ n : Fin 256, bits BinOp.and IntKind.u8 (n.1 : Int) 15 = ((n.1 % 16 : Nat) : Int) := by decide +kernel
theorem bits_lo64_all : ∀ n : Fin 961, bits BinOp.and IntKind.i64 (n.1 : Int) 15 = ((n.1 % 16 : Nat) : Int) := by decide +kernel
theorem bits_hi (y : UInt8) : bits BinOp.and IntKind.u8 ((y.toNat : Int) / 16) 15 = ((y.toNat / 16 : Nat) : Int) := bits_hi_all ⟨y.toNat, y.toNat_lt⟩
theorem bits_lo (y : UInt8) : bits BinOp.and IntKind.u8 (y.toNat : Int) 15 = ((y.toNat % 16 : Nat) : Int) := bits_lo_all ⟨y.toNat, y.toNat_lt⟩
theorem bits_lo64 (n : Nat) (h : n ≤ 960) : bits BinOp.and IntKind.i64 (n : Int) 15 = ((n % 16 : Nat) : Int) := bits_lo64_all ⟨n, by omega⟩
set_option maxRecDepth 100000 in
set_option maxHeartbeats 4000000 in
theorem digits_any (d : List UInt8) (hd : d.length = 32) (w : World) :
    Calls Try.prog 81 #[.string ⟨d.toArray⟩] w fun e w' => e = .returned (.slice (some ⟨w.heap.size, 0, none⟩) 67 67) ∧ arr w' w.heap.size 175 (ics (digs d)) ∧ Below w.heap.size w w' := by
  have hdI : (d.length : Int) = 32 := by omega
  have HD := hid hd
  clear hd
  go_enter Try.func81, Try.ntmps81
  go_wp2_with fail
  obtain ⟨b, hb⟩ : ∃ b, b = w.heap.size := ⟨_, rfl⟩
  rw [← hb]
  have HB := hid hb
  clear hb
  go_loopw [4, 11] (fun lk i wr => ∃ k : Nat, k ≤ 64 ∧ i = .int .i64 k ∧ lk = .int .i64 (lack d k : Nat) ∧ arr wr b 175 (ics (dz d k)) ∧ Below w.heap.size w wr) (fun _ i _ => 64 - (intOf i).toNat)
  case atStart => exact ⟨0, by omega, rfl, rfl, by rw [HB.out]; exact arr.new w _ _, (Below.refl _ _).alloc (Nat.le_refl _) _⟩
  case round =>
    obtain ⟨k, hk, rfl, rfl, ha, hbel⟩ := hrel
    by_cases hlk : k < 64
    · have hlk' : (k : Int) < 64 := by omega
      obtain ⟨m, hm⟩ : ∃ m, m = k / 2 := ⟨_, rfl⟩
      have hm1 : (k : Int) / 2 = (m : Int) := by omega
      have hm2 : m < d.length := by have := HD.out; omega
      have hm3 : (m : Int) < 32 := by omega
      obtain ⟨y, hy⟩ : ∃ y : UInt8, y = d.getD m 0 := ⟨_, rfl⟩
      have hyy : (⟨d.toArray⟩ : ByteArray)[m]'(hm2) = y := by rw [hy, List.getD_eq_getElem?_getD, List.getElem?_eq_getElem hm2]; rfl
      have HM := hid hm
      have HY := hid hy
      clear hm hy
      obtain ⟨v0, hv0⟩ : ∃ v, (ics (dz d k))[k]? = some v := ⟨_, ics_get _ _ (by rw [dz_len d k (by omega)]; omega)⟩
      have c4 := ha.cell k v0 hv0
      have f4 := ha.free k
      have hl := lack_le d k
      have lb := ha.lt
      obtain ⟨g, hg⟩ : ∃ g, g = dg d k := ⟨_, rfl⟩
      have hg15 : g ≤ 15 := by rw [hg]; exact dg_lt d k
      have hset : (ics (dz d k)).set k (.int .i64 (g : Nat)) = ics (dz d (k + 1)) := by rw [hg]; exact dz_set d k (by omega)
      have hlk1 : lack d (k + 1) = lack d k + (15 - g) := by rw [lack, hg]
      have HSET := hid hset
      have HLK := hid hlk1
      have HA := hid ha
      clear hv0 hset hlk1 ha
      by_cases he : k % 2 = 0
      · have he' : (k : Int) % 2 = 0 := by omega
        have hgg := dg_two d k he
        rw [← HM.out, ← HY.out, ← hg] at hgg
        have hbits : bits BinOp.and IntKind.u8 ((y.toNat : Int) / 16) 15 = (g : Int) := by rw [bits_hi y, hgg]
        clear hg hgg
        go_wp2
        go_roundw
        case rel =>
          refine ⟨k + 1, by omega, by go_num, by rw [HLK.out]; go_num, ?_, hbel.setCell (p := ⟨b, k, none⟩) (by simp; rw [HB.out]; exact Nat.le_refl _) _⟩
          rw [← HSET.out]; exact HA.out.set k _
        case measure => simp [intOf]; omega
      · have he' : ¬ (k : Int) % 2 = 0 := by omega
        have he2 : ((k : Int) % 2 == 0) = false := by simpa using he'
        have hgg := dg_odd d k he
        rw [← HM.out, ← HY.out, ← hg] at hgg
        have hbits : bits BinOp.and IntKind.u8 (y.toNat : Int) 15 = (g : Int) := by rw [bits_lo y, hgg]
        clear hg hgg
        go_wp2
        go_roundw
        case rel =>
          refine ⟨k + 1, by omega, by go_num, by rw [HLK.out]; go_num, ?_, hbel.setCell (p := ⟨b, k, none⟩) (by simp; rw [HB.out]; exact Nat.le_refl _) _⟩
          rw [← HSET.out]; exact HA.out.set k _
        case measure => simp [intOf]; omega
    · obtain rfl : k = 64 := by omega
      obtain ⟨g, hg⟩ : ∃ g, g = lack d 64 := ⟨_, rfl⟩
      rw [← hg]
      have hg960 : g ≤ 960 := by rw [hg]; exact lack_le d 64
      have HG := hid hg
      have HA := hid ha
      have HBEL := hid hbel
      have hcm : cmp 3 g (dz d 64) = digs d := by rw [hg]; exact cmp_digs d
      have hdl : (dz d 64).length = 67 := dz_len d 64 (by omega)
      have HCM := hid hcm
      have HDL := hid hdl
      clear hg ha hbel hcm hdl
      go_wp2_with fail
      go_loopw [4, 7] (fun lk i wr => ∃ (n q : Nat) (l : List Nat), n ≤ 3 ∧ i = .int .i64 (63 + (n : Int)) ∧ lk = .int .i64 (q : Nat) ∧ q ≤ 960 ∧ l.length = 67 ∧ cmp n q l = digs d ∧ arr wr b 175 (ics l) ∧ Below w.heap.size w wr) (fun _ i _ => ((intOf i) - 63).toNat)
      case atStart => exact ⟨3, g, dz d 64, by omega, rfl, rfl, hg960, HDL.out, HCM.out, HA.out, HBEL.out⟩
      case round =>
        obtain ⟨n, q, l, hn, rfl, rfl, hq, hl, hc, ha, hbel⟩ := hrel
        have HA2 := hid ha
        have HC2 := hid hc
        have HB2 := hid hbel
        have hl' := hid hl
        clear ha hc hbel hl HA HBEL HCM
        cases n with
        | zero =>
          go_wp2
          go_ret
          have e : l = digs d := HC2.out
          rw [← HB.out, ← e]
          exact ⟨rfl, HA2.out, by rw [HB.out]; exact HB2.out⟩
        | succ n =>
          obtain ⟨j, hj⟩ : ∃ j, j = 64 + n := ⟨_, rfl⟩
          have hjI : 63 + (((n + 1 : Nat)) : Int) = (j : Int) := by omega
          have hj64 : 64 ≤ (j : Int) := by omega
          have hj67 : (j : Int) < 67 := by omega
          obtain ⟨v0, hv0⟩ : ∃ v, (ics l)[j]? = some v := ⟨_, ics_get _ _ (by rw [hl'.out]; omega)⟩
          have c4 := HA2.out.cell j v0 hv0
          have f4 := HA2.out.free j
          have lb := HA2.out.lt
          have hbt := bits_lo64 q hq
          have hj1 : (j : Int) - 1 = 63 + (n : Int) := by omega
          have HJ := hid hj
          rw [hjI]
          clear hv0 hj hjI
          go_wp2
          go_roundw
          case rel =>
            refine ⟨n, q / 16, l.set j (q % 16), by omega, rfl, by go_num, by omega, by rw [List.length_set]; exact hl'.out, ?_, ?_, HB2.out.setCell (p := ⟨b, j, none⟩) (by simp; rw [HB.out]; exact Nat.le_refl _) _⟩
            · rw [← HC2.out, cmp, HJ.out]
            · have := HA2.out.set j (.int .i64 (q % 16 : Nat))
              rw [show (ics l).set j (.int .i64 (q % 16 : Nat)) = ics (l.set j (q % 16)) by unfold ics; rw [List.map_set]] at this
              exact this
          case measure => simp [intOf]; omega
/-- what reads as the digits -/
structure digsAt (W : World) (b : Nat) (L : List Nat) (c : Nat) : Prop where
  lt : b < W.heap.size
  cap : L.length ≤ c
  cells : ∀ i, i < L.length → W.cell? ⟨b, i, none⟩ = some (.int .i64 ((L.getD i 0 : Nat) : Int))
theorem digsAt.keep {W W' : World} {b c : Nat} {L : List Nat} (h : digsAt W b L c) (hb : Below W.heap.size W W') : digsAt W' b L c :=
  ⟨Nat.lt_of_lt_of_le h.lt hb.size, h.cap, fun i hi => (hb.cell (p := ⟨b, i, none⟩) h.lt).trans (h.cells i hi)⟩
theorem digsAt.of {W : World} {b : Nat} {T : TypeId} {L : List Nat} (h : arr W b T (ics L)) : digsAt W b L L.length := ⟨h.lt, Nat.le_refl _, fun i hi => h.cell i _ (ics_get L i hi)⟩
set_option maxRecDepth 100000 in
theorem digits_no (d : List UInt8) (hl : d.length ≤ 9223372036854775807) (hd : d.length ≠ 32) (w : World) :
    Calls Try.prog 81 #[.string ⟨d.toArray⟩] w fun e w' => e = .returned (.slice none 0 0) ∧ w' = w := by
  have hdI : ¬ (d.length : Int) = 32 := by omega
  go_enter Try.func81, Try.ntmps81
  go_wp2
  go_ret
  exact ⟨rfl, rfl⟩
end Go.Proofs.Ytcfohdkdppiekaa
