/- law05's laid and is: contracts. -/
import Derived.Test.YtcfohdkdppiekaaDoorWPackLay
namespace Go.Proofs.YtcfohdkdppiekaaDoor
open Go.RowKit Go.Proofs
theorem rowsAt.wide {w : World} {B C : Nat} {v : Value} {rs : List Rw} (h : rowsAt w B v rs) (hBC : B ≤ C) : rowsAt w C v rs := by
  obtain ⟨b, off, c, rfl, hB, hs, hr⟩ := h
  exact ⟨b, off, c, rfl, Nat.lt_of_lt_of_le hB hBC, hs, hr⟩
theorem RowsIn.wide {w : World} {B C : Nat} (h : RowsIn w B) (hBC : B ≤ C) : RowsIn w C :=
  ⟨Nat.lt_of_lt_of_le h.1 hBC, h.2.1, fun i rs hi => by
    obtain ⟨v, hv, hr⟩ := h.2.2 i rs hi
    exact ⟨v, hv, hr.wide hBC⟩⟩
set_option maxRecDepth 100000 in
set_option maxHeartbeats 2000000 in
theorem laid_any (S : Int) (n : Nat) (hn : n < 2 ^ 64) (s : List UInt8) (hs : s.length ≤ 9223372036854775807) (Z : Int) (hz : 0 ≤ Z ∧ Z < 4294967296) (B : Nat) (w : World) (hR : RowsIn w B) (hBw : B ≤ w.heap.size) (x : List UInt8 × Int) (hx : layOf S n (thText s Z) = x) :
    Calls Tryd.prog 17 #[thing S (n : Int) s Z] w fun e w' => e = .returned (.tuple #[.string ⟨(if x.2 = 0 then x.1 else []).toArray⟩, .bool (decide (x.2 = 0))]) ∧ Below w.heap.size w w' := by
  obtain ⟨N, hN⟩ : ∃ N : Int, N = (n : Int) := ⟨_, rfl⟩
  rw [← hN]
  have HX := hid hx
  have HN := hid hN
  have Hn := hid hn
  have HR := hid (hR.wide hBw)
  clear hx hN hn hR
  go_enter Tryd.func17, Tryd.ntmps17
  go_wp2_with fail
  refine (pnew_any _).mono ?_
  rintro e w1 ⟨g, rfl, hg, hp1, hb1⟩
  obtain ⟨wa, hwa⟩ : ∃ wa, wa = w.alloc (.cells #[.int .i64 S, .int .u64 N, .string ⟨s.toArray⟩, .int .u32 Z] 30) := ⟨_, rfl⟩
  have ba : Below w.heap.size w wa := by rw [hwa]; exact (Below.refl _ _).alloc (Nat.le_refl _) _
  have sa : wa.heap.size = w.heap.size + 1 := by rw [hwa]; simp
  have aa : arr wa w.heap.size 30 [.int .i64 S, .int .u64 N, .string ⟨s.toArray⟩, .int .u32 Z] := by rw [hwa]; exact arr.new w 30 _
  rw [← hwa] at hp1 hb1 hg
  have a1 := aa.keep hb1
  have b1 : Below w.heap.size w w1 := ba.trans (hb1.mono (by omega))
  have R1 : RowsIn w1 wa.heap.size := (HR.out.keep b1).wide (by omega)
  have BA := hid hb1
  have B1 := hid b1
  have R1' := hid R1
  have P1 := hid hp1
  have c0 := a1.cell 0 _ rfl
  have c1 := a1.cell 1 _ rfl
  have c2 := a1.cell 2 _ rfl
  have c3 := a1.cell 3 _ rfl
  have l1 := a1.lt
  have HS := hid hb1.size
  have HSA := hid sa
  clear hwa ba sa aa hg a1 b1 R1 hp1 hb1
  go_wp2_with fail
  rw [HN.out]
  refine (lay_any S n Hn.out s hs Z hz g wa.heap.size [] w1 R1'.out P1.out (by simp) HS.out).mono ?_
  rintro e w2 ⟨rfl, hp2, hb2⟩
  rw [HX.out] at hp2 ⊢
  rw [List.nil_append] at hp2
  have b2 : Below w.heap.size w w2 := B1.out.trans (hb2.mono (by rw [HSA.out]; omega))
  have B2 := hid b2
  have P2 := hid hp2
  clear hp2 hb2 b2 c0 c1 c2 c3 l1
  obtain ⟨X, c⟩ := x
  by_cases hc : c = 0
  · have q : (c == 0) = true := by simpa using hc
    subst hc
    go_wp2_with fail
    refine (ptext_any g wa.heap.size X w2 P2.out).mono ?_
    rintro e w3 ⟨rfl, rfl⟩
    go_wp2
    go_ret2
    exact ⟨rfl, B2.out⟩
  · have q : (c == 0) = false := by simpa using hc
    have q2 : (c != 0) = true := by simpa using hc
    go_wp2
    go_ret2
    refine ⟨?_, B2.out⟩
    simp [hc]
set_option maxRecDepth 100000 in
set_option maxHeartbeats 2000000 in
theorem is_any (S : Int) (n : Nat) (hn : n < 2 ^ 64) (s want : List UInt8) (hs : s.length ≤ 70000) (B : Nat) (w : World) (hR : RowsIn w B) (hBw : B ≤ w.heap.size) (hc : (layOf S n s).2 = 0) (he : (layOf S n s).1 = want) (hs7 : s.length ≤ 700) :
    Calls Tryd.prog 25 #[.int .i64 S, .int .u64 (n : Int), .string ⟨s.toArray⟩, .string ⟨want.toArray⟩] w fun e w' => e = .returned (.bool true) ∧ Below w.heap.size w w' := by
  have et : thText s 0 = s := by
    unfold thText
    rw [if_neg (by decide), List.take_of_length_le hs7]
    simp
  obtain ⟨N, hN⟩ : ∃ N : Int, N = (n : Int) := ⟨_, rfl⟩
  rw [← hN]
  have hx : layOf S n (thText s 0) = (want, 0) := by rw [et, ← hc, ← he]
  have HX := hid hx
  have HN := hid hN
  have Hn := hid hn
  have HR := hid hR
  clear hx hN hn hR hc he et
  go_enter Tryd.func25, Tryd.ntmps25
  go_wp2_with fail
  rw [HN.out]
  refine (laid_any S n Hn.out s (by omega) 0 (by decide) B _ HR.out hBw (want, 0) HX.out).mono ?_
  rintro e w1 ⟨rfl, b1⟩
  go_wp2
  go_ret
  exact ⟨rfl, b1⟩
end Go.Proofs.YtcfohdkdppiekaaDoor
