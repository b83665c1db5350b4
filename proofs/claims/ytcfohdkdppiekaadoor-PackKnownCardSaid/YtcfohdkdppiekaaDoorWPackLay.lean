/- law05's lay: contract. -/
import Derived.Test.YtcfohdkdppiekaaDoorWPackBin
namespace Go.Proofs.YtcfohdkdppiekaaDoor
open Go.RowKit Go.Proofs
theorem sgn_lt (n : Nat) (h : n < 2 ^ 64) : -9223372036854775808 ≤ sgn n ∧ sgn n < 9223372036854775808 := by
  unfold sgn; split <;> omega
theorem sgn_wrap (n : Nat) (h : n < 2 ^ 64) : wrap64 (n : Int) = sgn n := by
  unfold sgn wrap64; split <;> omega
set_option maxRecDepth 100000 in
set_option maxHeartbeats 2000000 in
theorem lay0 (n : Nat) (hn : n < 2 ^ 64) (s : List UInt8) (hs : s.length ≤ 9223372036854775807) (Z : Int) (hz : 0 ≤ Z ∧ Z < 4294967296) (g B : Nat) (l : List UInt8) (w : World) (hR : RowsIn w B) (hp : isP w B g l) (hl : l.length ≤ 1000000000) (hBw : B ≤ w.heap.size) :
    Calls Tryd.prog 9 #[.pointer (some ⟨g, 0, none⟩), thing 0 (n : Int) s Z] w (PGives w g B l (pick (tab.getD 0 []) n) 0) := by
  obtain ⟨N, hN⟩ : ∃ N : Int, N = (n : Int) := ⟨_, rfl⟩
  rw [← hN]
  have N0 : 0 ≤ N := by omega
  have N1 : N < 18446744073709551616 := by omega
  have b1 : Below w.heap.size w (w.alloc (.cells #[.int .i64 0, .int .u64 N, .string ⟨s.toArray⟩, .int .u32 Z] 30)) := (Below.refl _ _).alloc (Nat.le_refl _) _
  have bB : Below B w (w.alloc (.cells #[.int .i64 0, .int .u64 N, .string ⟨s.toArray⟩, .int .u32 Z] 30)) := b1.mono hBw
  have HR := hid (hR.keep bB)
  have HP := hid (hp.keep b1)
  have HB := hid bB
  have HN := hid hN
  have Hn := hid hn
  have hB1 : B ≤ (w.alloc (.cells #[.int .i64 0, .int .u64 N, .string ⟨s.toArray⟩, .int .u32 Z] 30)).heap.size := Nat.le_trans hBw b1.size
  have HB1 := hid hB1
  clear hR hp hN b1 bB hn hB1
  go_enter Tryd.func9, Tryd.ntmps9
  go_wp2_with fail
  rw [HN.out] at HR HP HB HB1 ⊢
  refine (pnum_any n Hn.out g B l _ HR.out HP.out (by omega) HB1.out).mono ?_
  rintro e w5 ⟨rfl, hp5, hb5⟩
  have HP5 := hid hp5
  have HB5 := hid (HB.out.trans hb5)
  clear hp5 hb5
  go_wp2
  go_ret
  exact ⟨rfl, HP5.out, HB5.out⟩
set_option maxRecDepth 100000 in
set_option maxHeartbeats 2000000 in
theorem lay1 (n : Nat) (hn : n < 2 ^ 64) (s : List UInt8) (hs : s.length ≤ 9223372036854775807) (Z : Int) (hz : 0 ≤ Z ∧ Z < 4294967296) (g B : Nat) (l : List UInt8) (w : World) (hR : RowsIn w B) (hp : isP w B g l) (hl : l.length ≤ 1000000000) (hBw : B ≤ w.heap.size) :
    Calls Tryd.prog 9 #[.pointer (some ⟨g, 0, none⟩), thing 1 (n : Int) s Z] w (PGives w g B l (wlay (tab.getD 1 []) (thText s Z)) (wcode (thText s Z))) := by
  obtain ⟨N, hN⟩ : ∃ N : Int, N = (n : Int) := ⟨_, rfl⟩
  rw [← hN]
  have N0 : 0 ≤ N := by omega
  have N1 : N < 18446744073709551616 := by omega
  have b1 : Below w.heap.size w (w.alloc (.cells #[.int .i64 1, .int .u64 N, .string ⟨s.toArray⟩, .int .u32 Z] 30)) := (Below.refl _ _).alloc (Nat.le_refl _) _
  have bB : Below B w (w.alloc (.cells #[.int .i64 1, .int .u64 N, .string ⟨s.toArray⟩, .int .u32 Z] 30)) := b1.mono hBw
  have HR := hid (hR.keep bB)
  have HP := hid (hp.keep b1)
  have HB := hid bB
  have HN := hid hN
  have Hn := hid hn
  have hB1 : B ≤ (w.alloc (.cells #[.int .i64 1, .int .u64 N, .string ⟨s.toArray⟩, .int .u32 Z] 30)).heap.size := Nat.le_trans hBw b1.size
  have HB1 := hid hB1
  clear hR hp hN b1 bB hn hB1
  have hT := thText_len s Z
  have HT := hid hT
  clear hT
  go_enter Tryd.func9, Tryd.ntmps9
  go_wp2_with fail
  refine (text_any 1 N s Z hz hs _).mono ?_
  rintro e w4 ⟨rfl, hb4⟩
  have hB4 := hb4.mono HB1.out
  have HR4 := hid (HR.out.keep hB4)
  have HP4 := hid (HP.out.keep hb4)
  have HB4 := hid (HB.out.trans hB4)
  have HS4 := hid (Nat.le_trans HB1.out hb4.size)
  clear hb4 hB4
  have hT := HT.out
  generalize thText s Z = x at *
  go_wp2_with fail
  refine (pBin_any x (by omega) g B l w4 HR4.out HP4.out hl HS4.out).mono ?_
  rintro e w5 ⟨rfl, hp5, hb5⟩
  have HP5 := hid hp5
  have HB5 := hid (HB4.out.trans hb5)
  clear hp5 hb5
  go_wp2
  go_ret
  exact ⟨rfl, HP5.out, HB5.out⟩
set_option maxRecDepth 100000 in
set_option maxHeartbeats 2000000 in
theorem lay2 (n : Nat) (hn : n < 2 ^ 64) (s : List UInt8) (hs : s.length ≤ 9223372036854775807) (Z : Int) (hz : 0 ≤ Z ∧ Z < 4294967296) (g B : Nat) (l : List UInt8) (w : World) (hR : RowsIn w B) (hp : isP w B g l) (hl : l.length ≤ 1000000000) (hBw : B ≤ w.heap.size) :
    Calls Tryd.prog 9 #[.pointer (some ⟨g, 0, none⟩), thing 2 (n : Int) s Z] w (PGives w g B l (wlay (tab.getD 2 []) (thText s Z)) (wcode (thText s Z))) := by
  obtain ⟨N, hN⟩ : ∃ N : Int, N = (n : Int) := ⟨_, rfl⟩
  rw [← hN]
  have N0 : 0 ≤ N := by omega
  have N1 : N < 18446744073709551616 := by omega
  have b1 : Below w.heap.size w (w.alloc (.cells #[.int .i64 2, .int .u64 N, .string ⟨s.toArray⟩, .int .u32 Z] 30)) := (Below.refl _ _).alloc (Nat.le_refl _) _
  have bB : Below B w (w.alloc (.cells #[.int .i64 2, .int .u64 N, .string ⟨s.toArray⟩, .int .u32 Z] 30)) := b1.mono hBw
  have HR := hid (hR.keep bB)
  have HP := hid (hp.keep b1)
  have HB := hid bB
  have HN := hid hN
  have Hn := hid hn
  have hB1 : B ≤ (w.alloc (.cells #[.int .i64 2, .int .u64 N, .string ⟨s.toArray⟩, .int .u32 Z] 30)).heap.size := Nat.le_trans hBw b1.size
  have HB1 := hid hB1
  clear hR hp hN b1 bB hn hB1
  have hT := thText_len s Z
  have HT := hid hT
  clear hT
  go_enter Tryd.func9, Tryd.ntmps9
  go_wp2_with fail
  refine (text_any 2 N s Z hz hs _).mono ?_
  rintro e w4 ⟨rfl, hb4⟩
  have hB4 := hb4.mono HB1.out
  have HR4 := hid (HR.out.keep hB4)
  have HP4 := hid (HP.out.keep hb4)
  have HB4 := hid (HB.out.trans hB4)
  have HS4 := hid (Nat.le_trans HB1.out hb4.size)
  clear hb4 hB4
  have hT := HT.out
  generalize thText s Z = x at *
  go_wp2_with fail
  refine (pStr_any x (by omega) g B l w4 HR4.out HP4.out hl HS4.out).mono ?_
  rintro e w5 ⟨rfl, hp5, hb5⟩
  have HP5 := hid hp5
  have HB5 := hid (HB4.out.trans hb5)
  clear hp5 hb5
  go_wp2
  go_ret
  exact ⟨rfl, HP5.out, HB5.out⟩
set_option maxRecDepth 100000 in
set_option maxHeartbeats 2000000 in
theorem lay3 (n : Nat) (hn : n < 2 ^ 64) (s : List UInt8) (hs : s.length ≤ 9223372036854775807) (Z : Int) (hz : 0 ≤ Z ∧ Z < 4294967296) (g B : Nat) (l : List UInt8) (w : World) (hR : RowsIn w B) (hp : isP w B g l) (hl : l.length ≤ 1000000000) (hBw : B ≤ w.heap.size) :
    Calls Tryd.prog 9 #[.pointer (some ⟨g, 0, none⟩), thing 3 (n : Int) s Z] w (PGives w g B l (mlay (tab.getD 3 []) (sgn n)) (mcode (sgn n))) := by
  obtain ⟨N, hN⟩ : ∃ N : Int, N = (n : Int) := ⟨_, rfl⟩
  rw [← hN]
  have N0 : 0 ≤ N := by omega
  have N1 : N < 18446744073709551616 := by omega
  have b1 : Below w.heap.size w (w.alloc (.cells #[.int .i64 3, .int .u64 N, .string ⟨s.toArray⟩, .int .u32 Z] 30)) := (Below.refl _ _).alloc (Nat.le_refl _) _
  have bB : Below B w (w.alloc (.cells #[.int .i64 3, .int .u64 N, .string ⟨s.toArray⟩, .int .u32 Z] 30)) := b1.mono hBw
  have HR := hid (hR.keep bB)
  have HP := hid (hp.keep b1)
  have HB := hid bB
  have HN := hid hN
  have Hn := hid hn
  have hB1 : B ≤ (w.alloc (.cells #[.int .i64 3, .int .u64 N, .string ⟨s.toArray⟩, .int .u32 Z] 30)).heap.size := Nat.le_trans hBw b1.size
  have HB1 := hid hB1
  clear hR hp hN b1 bB hn hB1
  have hw : wrap64 N = sgn n := by rw [HN.out]; exact sgn_wrap n Hn.out
  have hsg := sgn_lt n Hn.out
  generalize sgn n = M at *
  go_enter Tryd.func9, Tryd.ntmps9
  go_wp2_with fail
  refine (pList_any M hsg.1 hsg.2 g B l _ HR.out HP.out hl HB1.out).mono ?_
  rintro e w5 ⟨rfl, hp5, hb5⟩
  have HP5 := hid hp5
  have HB5 := hid (HB.out.trans hb5)
  clear hp5 hb5
  go_wp2
  go_ret
  exact ⟨rfl, HP5.out, HB5.out⟩
set_option maxRecDepth 100000 in
set_option maxHeartbeats 2000000 in
theorem lay4 (S : Int) (h0 : ¬ S = 0) (h1 : ¬ S = 1) (h2 : ¬ S = 2) (h3 : ¬ S = 3) (n : Nat) (hn : n < 2 ^ 64) (s : List UInt8) (hs : s.length ≤ 9223372036854775807) (Z : Int) (hz : 0 ≤ Z ∧ Z < 4294967296) (g B : Nat) (l : List UInt8) (w : World) (hR : RowsIn w B) (hp : isP w B g l) (hl : l.length ≤ 1000000000) (hBw : B ≤ w.heap.size) :
    Calls Tryd.prog 9 #[.pointer (some ⟨g, 0, none⟩), thing S (n : Int) s Z] w (PGives w g B l (mlay (tab.getD 4 []) (sgn n)) (mcode (sgn n))) := by
  obtain ⟨N, hN⟩ : ∃ N : Int, N = (n : Int) := ⟨_, rfl⟩
  rw [← hN]
  have N0 : 0 ≤ N := by omega
  have N1 : N < 18446744073709551616 := by omega
  have b1 : Below w.heap.size w (w.alloc (.cells #[.int .i64 S, .int .u64 N, .string ⟨s.toArray⟩, .int .u32 Z] 30)) := (Below.refl _ _).alloc (Nat.le_refl _) _
  have bB : Below B w (w.alloc (.cells #[.int .i64 S, .int .u64 N, .string ⟨s.toArray⟩, .int .u32 Z] 30)) := b1.mono hBw
  have HR := hid (hR.keep bB)
  have HP := hid (hp.keep b1)
  have HB := hid bB
  have HN := hid hN
  have Hn := hid hn
  have hB1 : B ≤ (w.alloc (.cells #[.int .i64 S, .int .u64 N, .string ⟨s.toArray⟩, .int .u32 Z] 30)).heap.size := Nat.le_trans hBw b1.size
  have HB1 := hid hB1
  clear hR hp hN b1 bB hn hB1
  have q0 : (S == 0) = false := by simpa using h0
  have q1 : (S == 1) = false := by simpa using h1
  have q2 : (S == 2) = false := by simpa using h2
  have q3 : (S == 3) = false := by simpa using h3
  have hw : wrap64 N = sgn n := by rw [HN.out]; exact sgn_wrap n Hn.out
  have hsg := sgn_lt n Hn.out
  generalize sgn n = M at *
  go_enter Tryd.func9, Tryd.ntmps9
  go_wp2_with fail
  refine (pMap_any M hsg.1 hsg.2 g B l _ HR.out HP.out hl HB1.out).mono ?_
  rintro e w5 ⟨rfl, hp5, hb5⟩
  have HP5 := hid hp5
  have HB5 := hid (HB.out.trans hb5)
  clear hp5 hb5
  go_wp2
  go_ret
  exact ⟨rfl, HP5.out, HB5.out⟩
theorem lay_any (S : Int) (n : Nat) (hn : n < 2 ^ 64) (s : List UInt8) (hs : s.length ≤ 9223372036854775807) (Z : Int) (hz : 0 ≤ Z ∧ Z < 4294967296) (g B : Nat) (l : List UInt8) (w : World) (hR : RowsIn w B) (hp : isP w B g l) (hl : l.length ≤ 1000000000) (hBw : B ≤ w.heap.size) :
    Calls Tryd.prog 9 #[.pointer (some ⟨g, 0, none⟩), thing S (n : Int) s Z] w (PGives w g B l (layOf S n (thText s Z)).1 (layOf S n (thText s Z)).2) := by
  by_cases h0 : S = 0
  · subst h0; exact lay0 n hn s hs Z hz g B l w hR hp hl hBw
  by_cases h1 : S = 1
  · subst h1; exact lay1 n hn s hs Z hz g B l w hR hp hl hBw
  by_cases h2 : S = 2
  · subst h2; exact lay2 n hn s hs Z hz g B l w hR hp hl hBw
  by_cases h3 : S = 3
  · subst h3; exact lay3 n hn s hs Z hz g B l w hR hp hl hBw
  have e : layOf S n (thText s Z) = (mlay (tab.getD 4 []) (sgn n), mcode (sgn n)) := by
    unfold layOf
    rw [if_neg h0, if_neg h1, if_neg h2, if_neg h3]
  rw [e]
  exact lay4 S h0 h1 h2 h3 n hn s hs Z hz g B l w hR hp hl hBw
end Go.Proofs.YtcfohdkdppiekaaDoor
