/- pack's head: contract. -/
import Derived.Test.YtcfohdkdppiekaaDoorWPut2
namespace Go.Proofs.YtcfohdkdppiekaaDoor
open Go.RowKit Go.Proofs
abbrev Rw := Nat × Nat × Nat
/-- what a row lays of a number -/
def layRow (r : Rw) (n : Nat) : List UInt8 := if r.2.2 = 0 then [UInt8.ofNat (r.2.1 + n)] else UInt8.ofNat r.2.1 :: be n r.2.2
def fits (r : Rw) (n : Nat) : Bool := r.1 == 0 || decide (n < r.1)
def pick : List Rw → Nat → List UInt8
  | [], _ => []
  | r :: rs, n => if fits r n then layRow r n else pick rs n
def okRow (r : Rw) : Prop := r.1 < 2 ^ 64 ∧ r.2.1 < 256 ∧ r.2.2 ≤ 8 ∧ (r.2.2 = 0 → 0 < r.1 ∧ r.2.1 + r.1 ≤ 256)
def tab : List (List Rw) := [[(128, 0, 0), (256, 204, 1), (65536, 205, 2), (4294967296, 206, 4), (0, 207, 8)], [(256, 196, 1), (65536, 197, 2)], [(32, 160, 0), (256, 217, 1), (65536, 218, 2)], [(16, 144, 0), (65536, 220, 2)], [(16, 128, 0), (65536, 222, 2)]]
theorem tab_ok : ∀ rs ∈ tab, ∀ r ∈ rs, okRow r := by
  intro rs hrs r hr
  have h : (tab.all fun rs => rs.all fun r => decide (r.1 < 2 ^ 64 ∧ r.2.1 < 256 ∧ r.2.2 ≤ 8 ∧ (r.2.2 = 0 → 0 < r.1 ∧ r.2.1 + r.1 ≤ 256))) = true := by decide +kernel
  show r.1 < 2 ^ 64 ∧ r.2.1 < 256 ∧ r.2.2 ≤ 8 ∧ (r.2.2 = 0 → 0 < r.1 ∧ r.2.1 + r.1 ≤ 256)
  exact of_decide_eq_true (List.all_eq_true.1 (List.all_eq_true.1 h rs hrs) r hr)
theorem tab_len : ∀ rs ∈ tab, rs.length ≤ 5 := by
  intro rs hrs
  have h : (tab.all fun rs => decide (rs.length ≤ 5)) = true := by decide +kernel
  exact of_decide_eq_true (List.all_eq_true.1 h rs hrs)
/-- a slice that reads as rows, below B -/
def rowsAt (w : World) (B : Nat) (v : Value) (rs : List Rw) : Prop := ∃ b off c, v = .slice (some ⟨b, off, none⟩) rs.length c ∧ b < B ∧ b < w.heap.size ∧
  ∀ i r, rs[i]? = some r → w.cell? ⟨b, off + i * 3, none⟩ = some (.int .u64 (r.1 : Int)) ∧ w.cell? ⟨b, off + i * 3 + 1, none⟩ = some (.int .u8 (r.2.1 : Int)) ∧ w.cell? ⟨b, off + i * 3 + 2, none⟩ = some (.int .i64 (r.2.2 : Int))
/-- the table lies in memory, below B -/
def RowsIn (w : World) (B : Nat) : Prop := 0 < B ∧ 0 < w.heap.size ∧ ∀ i rs, tab[i]? = some rs → ∃ v, w.cell? ⟨0, i, none⟩ = some v ∧ rowsAt w B v rs
theorem cell_keep {w w' : World} {B b off : Nat} {v : Value} (hb : Below B w w') (h : b < B) (hc : w.cell? ⟨b, off, none⟩ = some v) : w'.cell? ⟨b, off, none⟩ = some v := by
  rw [hb.cell h]; exact hc
theorem rowsAt.keep {w w' : World} {B : Nat} {v : Value} {rs : List Rw} (h : rowsAt w B v rs) (hb : Below B w w') : rowsAt w' B v rs := by
  obtain ⟨b, off, c, rfl, hB, hs, hr⟩ := h
  exact ⟨b, off, c, rfl, hB, Nat.lt_of_lt_of_le hs hb.size, fun i r hi => ⟨cell_keep hb hB (hr i r hi).1, cell_keep hb hB (hr i r hi).2.1, cell_keep hb hB (hr i r hi).2.2⟩⟩
theorem RowsIn.keep {w w' : World} {B : Nat} (h : RowsIn w B) (hb : Below B w w') : RowsIn w' B :=
  ⟨h.1, Nat.lt_of_lt_of_le h.2.1 hb.size, fun i rs hi => by
    obtain ⟨v, hv, hr⟩ := h.2.2 i rs hi
    exact ⟨v, cell_keep hb h.1 hv, hr.keep hb⟩⟩
set_option maxRecDepth 100000 in
set_option maxHeartbeats 4000000 in
theorem head_any (sort : Nat) (n : Nat) (rs : List Rw) (hrs : tab[sort]? = some rs) (hn64 : n < 2 ^ 64) (g B : Nat) (l : List UInt8) (w : World) (hR : RowsIn w B) (hp : isP w B g l) (hl : l.length ≤ 10000000000) (hBw : B ≤ w.heap.size) :
    Calls Tryd.prog 28 #[.pointer (some ⟨g, 0, none⟩), .int .i64 (sort : Int), .int .u64 (n : Int)] w fun e w' => e = .returned (.tuple #[]) ∧ isP w' B g (l ++ pick rs n) ∧ Below B w w' := by
  obtain ⟨v, hv, b, off, c, rfl, hbB, hbw, hcells⟩ := hR.2.2 sort rs hrs
  have hs5 : sort < 5 := (List.getElem?_eq_some_iff.1 hrs).1
  have hs5' : (sort : Int) < 5 := by omega
  have hlen : rs.length ≤ 5 := tab_len rs (List.mem_of_getElem? hrs)
  have h0 := hR.2.1
  have HP := hid hp
  have HR := hid hR
  have HRS := hid hrs
  have HC := hid hcells
  clear hp hR hrs hcells
  go_enter Tryd.func28, Tryd.ntmps28
  go_wp2
  obtain ⟨w1, hw1⟩ : ∃ w1, w1 = (w.alloc (.cells #[.pointer (some ⟨g, 0, none⟩)] 23)).alloc (.cells #[.int .u64 (n : Int)] 27) := ⟨_, rfl⟩
  have b1 : Below w.heap.size w w1 := by rw [hw1]; exact ((Below.refl _ _).alloc (Nat.le_refl _) _).alloc (by simp) _
  have aw1 : arr w1 w.heap.size 23 [.pointer (some ⟨g, 0, none⟩)] := by rw [hw1]; exact (arr.new w 23 _).alloc _
  have an1 : arr w1 (w.heap.size + 1) 27 [.int .u64 (n : Int)] := by rw [hw1]; exact arr.newAt _ 27 [.int .u64 (n : Int)] (w.heap.size + 1) (by simp)
  have hs1 : w1.heap.size = w.heap.size + 2 := by rw [hw1]; simp
  rw [← hw1]
  have B1 := hid b1
  have AW1 := hid aw1
  have AN1 := hid an1
  have HS1 := hid hs1
  clear hw1 b1 aw1 an1 hs1
  go_loopw [14] (fun i wr => ∃ k : Nat, k ≤ rs.length ∧ i = .int .i64 (k : Int) ∧ Below w1.heap.size w1 wr ∧ pick rs n = pick (rs.drop k) n) (fun i _ => rs.length - (intOf i).toNat)
  case atStart => exact ⟨0, by omega, rfl, Below.refl _ _, by simp⟩
  case round =>
    obtain ⟨k, hk, rfl, hbr, hpk⟩ := hrel
    by_cases hlt : k < rs.length
    · have hlt' : (k : Int) < (rs.length : Int) := by omega
      obtain ⟨⟨rb, rf, rz⟩, hr⟩ : ∃ r, rs[k]? = some r := ⟨_, List.getElem?_eq_getElem hlt⟩
      have hpk2 : pick rs n = if fits (rb, rf, rz) n then layRow (rb, rf, rz) n else pick (rs.drop (k + 1)) n := by
        rw [hpk, List.drop_eq_getElem_cons hlt, (List.getElem?_eq_some_iff.1 hr).2]; rfl
      obtain ⟨ok1, ok2, ok3, ok4⟩ := tab_ok rs (List.mem_of_getElem? HRS.out) _ (List.mem_of_getElem? hr)
      simp only at ok1 ok2 ok3 ok4
      have HPK2 := hid hpk2
      have HLT := hid hlt
      clear hpk2
      have b2 : Below w.heap.size w wr := B1.out.trans (hbr.mono (by rw [HS1.out]; omega))
      obtain ⟨hc0, hc1, hc2⟩ := HC.out k (rb, rf, rz) hr
      have hbw2 : b < wr.heap.size := Nat.lt_of_lt_of_le hbw b2.size
      replace hc0 := cell_keep b2 hbw hc0
      replace hc1 := cell_keep b2 hbw hc1
      replace hc2 := cell_keep b2 hbw hc2
      have B2 := hid b2
      have HBR := hid hbr
      have HR' := hid hr
      clear b2 hbr hpk hr
      go_wp2_with fail
      obtain ⟨wa, hwa⟩ : ∃ wa, wa = wr.alloc (.cells #[.int .u64 (rb : Int), .int .u8 (rf : Int), .int .i64 (rz : Int)] 71) := ⟨_, rfl⟩
      rw [← hwa]
      have ba : Below wr.heap.size wr wa := by rw [hwa]; exact (Below.refl _ _).alloc (Nat.le_refl _) _
      have b3 : Below w1.heap.size w1 wa := HBR.out.trans (ba.mono HBR.out.size)
      have b4 : Below w.heap.size w wa := B1.out.trans (b3.mono (by rw [HS1.out]; omega))
      have awa := AW1.out.keep b3
      have ana := AN1.out.keep b3
      have pa := HP.out.keep b4
      have hBa : B ≤ wa.heap.size := Nat.le_trans hBw b4.size
      clear hwa ba hc0 hc1 hc2
      have B3 := hid b3
      have B4 := hid b4
      clear b3 b4
      by_cases hf : fits (rb, rf, rz) n = true
      · have hpk3 : pick rs n = layRow (rb, rf, rz) n := by rw [HPK2.out, if_pos hf]
        have hfit : (rb : Int) = 0 ∨ (n : Int) < (rb : Int) := by
          simp [fits] at hf; omega
        by_cases hz : rz = 0
        · subst hz
          have h4 := ok4 rfl
          refine (put_one (rb : Int) n rf (w.heap.size + 1) w.heap.size g B l (by omega) hfit (by omega) wa ana awa pa hl hBa).mono ?_
          rintro e w5 ⟨rfl, hp5, hb5⟩
          have hp6 : isP w5 B g (l ++ pick rs n) := by rw [hpk3]; exact hp5
          have hb6 := (B4.out.mono hBw).trans hb5
          have HP6 := hid hp6
          have HB6 := hid hb6
          clear hp5 hb5 hp6 hb6 awa ana pa
          go_wp2
          refine bodyPost_ret (results_none rfl _ _ _) rfl ?_
          exact ⟨rfl, HP6.out, HB6.out⟩
        · refine (put_many (rb : Int) n rf rz (w.heap.size + 1) w.heap.size g B l (by omega) hfit (by omega) hn64 (by omega) ok3 wa ana awa pa hl hBa).mono ?_
          rintro e w5 ⟨rfl, hp5, hb5⟩
          have hp6 : isP w5 B g (l ++ pick rs n) := by rw [hpk3, layRow, if_neg hz]; exact hp5
          have hb6 := (B4.out.mono hBw).trans hb5
          have HP6 := hid hp6
          have HB6 := hid hb6
          clear hp5 hb5 hp6 hb6 awa ana pa
          go_wp2
          refine bodyPost_ret (results_none rfl _ _ _) rfl ?_
          exact ⟨rfl, HP6.out, HB6.out⟩
      · have hpk3 : pick rs n = pick (rs.drop (k + 1)) n := by rw [HPK2.out, if_neg hf]
        have hno : (rb : Int) ≤ (n : Int) ∧ (0 : Int) < (rb : Int) := by
          simp [fits] at hf; omega
        refine (put_no (rb : Int) n (rf : Int) (rz : Int) (w.heap.size + 1) w.heap.size _ hno.1 hno.2 wa ana awa).mono ?_
        rintro e w5 ⟨rfl, hb5⟩
        have HB5 := hid hb5
        have HPK3 := hid hpk3
        clear hb5 hpk3 awa ana pa
        go_wp2
        go_roundw
        case rel => exact ⟨k + 1, HLT.out, by go_num, B3.out.trans (HB5.out.mono B3.out.size), HPK3.out⟩
        case measure =>
          have := HLT.out
          simp only [intOf, IntKind.wrap_i64]; omega
    · obtain rfl : k = rs.length := by omega
      have hpk2 : pick rs n = [] := by rw [hpk, List.drop_length]; rfl
      have b2 : Below w.heap.size w wr := B1.out.trans (hbr.mono (by rw [HS1.out]; omega))
      have HB2 := hid b2
      have HPK := hid hpk2
      clear hpk hbr b2 hpk2
      go_wp2
      go_end0
      refine ⟨rfl, ?_, HB2.out.mono hBw⟩
      rw [HPK.out, List.append_nil]; exact HP.out.keep HB2.out
end Go.Proofs.YtcfohdkdppiekaaDoor
