/- law05's lay: contract. -/
import Derived.Test.YtcfohdkdppiekaaDoorWPackTxt
namespace Go.Proofs.YtcfohdkdppiekaaDoor
open Go.RowKit Go.Proofs
/-- what a call of the writer gives -/
def PGives (w : World) (g B : Nat) (l x : List UInt8) (c : Int) : Ending → World → Prop := fun e w' => e = .returned (.int .i64 c) ∧ isP w' B g (l ++ x) ∧ Below B w w'
set_option maxRecDepth 100000 in
set_option maxHeartbeats 2000000 in
theorem pwhole_nil (k : Int) (s : ByteArray) (w : World) :
    Calls Tryd.prog 31 #[.pointer none, .int .i64 k, .string s] w fun e w' => e = .returned (.int .i64 1) ∧ w' = w := by
  go_enter Tryd.func31, Tryd.ntmps31
  go_wp2_with fail
  refine (pmany_nil k _ w).mono ?_
  rintro e w5 ⟨rfl, rfl⟩
  go_wp2
  go_ret
  exact ⟨rfl, rfl⟩
set_option maxRecDepth 100000 in
set_option maxHeartbeats 2000000 in
theorem pBin_any (s : List UInt8) (hs : s.length ≤ 1000000) (g B : Nat) (l : List UInt8) (w : World) (hR : RowsIn w B) (hp : isP w B g l) (hl : l.length ≤ 1000000000) (hBw : B ≤ w.heap.size) :
    Calls Tryd.prog 22 #[.pointer (some ⟨g, 0, none⟩), .string ⟨s.toArray⟩] w (PGives w g B l (wlay (tab.getD 1 []) s) (wcode s)) := by
  have HR := hid hR
  have HP := hid hp
  clear hR hp
  go_enter Tryd.func22, Tryd.ntmps22
  go_wp2_with fail
  refine (pwhole_any 1 (tab.getD 1 []) rfl s hs g B l w HR.out HP.out hl hBw).mono ?_
  rintro e w5 ⟨rfl, hp5, hb5⟩
  have HP5 := hid hp5
  have HB5 := hid hb5
  clear hp5 hb5
  go_wp2
  go_ret
  exact ⟨rfl, HP5.out, HB5.out⟩
set_option maxRecDepth 100000 in
set_option maxHeartbeats 2000000 in
theorem pBin_nil (s : ByteArray) (w : World) :
    Calls Tryd.prog 22 #[.pointer none, .string s] w fun e w' => e = .returned (.int .i64 1) ∧ w' = w := by
  go_enter Tryd.func22, Tryd.ntmps22
  go_wp2_with fail
  refine (pwhole_nil 1 s w).mono ?_
  rintro e w5 ⟨rfl, rfl⟩
  go_wp2
  go_ret
  exact ⟨rfl, rfl⟩
set_option maxRecDepth 100000 in
set_option maxHeartbeats 2000000 in
theorem pStr_any (s : List UInt8) (hs : s.length ≤ 1000000) (g B : Nat) (l : List UInt8) (w : World) (hR : RowsIn w B) (hp : isP w B g l) (hl : l.length ≤ 1000000000) (hBw : B ≤ w.heap.size) :
    Calls Tryd.prog 23 #[.pointer (some ⟨g, 0, none⟩), .string ⟨s.toArray⟩] w (PGives w g B l (wlay (tab.getD 2 []) s) (wcode s)) := by
  have HR := hid hR
  have HP := hid hp
  clear hR hp
  go_enter Tryd.func23, Tryd.ntmps23
  go_wp2_with fail
  refine (pwhole_any 2 (tab.getD 2 []) rfl s hs g B l w HR.out HP.out hl hBw).mono ?_
  rintro e w5 ⟨rfl, hp5, hb5⟩
  have HP5 := hid hp5
  have HB5 := hid hb5
  clear hp5 hb5
  go_wp2
  go_ret
  exact ⟨rfl, HP5.out, HB5.out⟩
set_option maxRecDepth 100000 in
set_option maxHeartbeats 2000000 in
theorem pStr_nil (s : ByteArray) (w : World) :
    Calls Tryd.prog 23 #[.pointer none, .string s] w fun e w' => e = .returned (.int .i64 1) ∧ w' = w := by
  go_enter Tryd.func23, Tryd.ntmps23
  go_wp2_with fail
  refine (pwhole_nil 2 s w).mono ?_
  rintro e w5 ⟨rfl, rfl⟩
  go_wp2
  go_ret
  exact ⟨rfl, rfl⟩
set_option maxRecDepth 100000 in
set_option maxHeartbeats 2000000 in
theorem pList_any (n : Int) (hn1 : -9223372036854775808 ≤ n) (hn2 : n < 9223372036854775808) (g B : Nat) (l : List UInt8) (w : World) (hR : RowsIn w B) (hp : isP w B g l) (hl : l.length ≤ 1000000000) (hBw : B ≤ w.heap.size) :
    Calls Tryd.prog 20 #[.pointer (some ⟨g, 0, none⟩), .int .i64 n] w (PGives w g B l (mlay (tab.getD 3 []) n) (mcode n)) := by
  have HR := hid hR
  have HP := hid hp
  have H1 := hid hn1
  have H2 := hid hn2
  clear hR hp hn1 hn2
  go_enter Tryd.func20, Tryd.ntmps20
  go_wp2_with fail
  refine (pmany_any 3 (tab.getD 3 []) rfl n H1.out H2.out g B l w HR.out HP.out (by omega) hBw).mono ?_
  rintro e w5 ⟨rfl, hp5, hb5⟩
  have HP5 := hid hp5
  have HB5 := hid hb5
  clear hp5 hb5
  go_wp2
  go_ret
  exact ⟨rfl, HP5.out, HB5.out⟩
set_option maxRecDepth 100000 in
set_option maxHeartbeats 2000000 in
theorem pList_nil (n : Int) (w : World) :
    Calls Tryd.prog 20 #[.pointer none, .int .i64 n] w fun e w' => e = .returned (.int .i64 1) ∧ w' = w := by
  go_enter Tryd.func20, Tryd.ntmps20
  go_wp2_with fail
  refine (pmany_nil 3 n w).mono ?_
  rintro e w5 ⟨rfl, rfl⟩
  go_wp2
  go_ret
  exact ⟨rfl, rfl⟩
set_option maxRecDepth 100000 in
set_option maxHeartbeats 2000000 in
theorem pMap_any (n : Int) (hn1 : -9223372036854775808 ≤ n) (hn2 : n < 9223372036854775808) (g B : Nat) (l : List UInt8) (w : World) (hR : RowsIn w B) (hp : isP w B g l) (hl : l.length ≤ 1000000000) (hBw : B ≤ w.heap.size) :
    Calls Tryd.prog 21 #[.pointer (some ⟨g, 0, none⟩), .int .i64 n] w (PGives w g B l (mlay (tab.getD 4 []) n) (mcode n)) := by
  have HR := hid hR
  have HP := hid hp
  have H1 := hid hn1
  have H2 := hid hn2
  clear hR hp hn1 hn2
  go_enter Tryd.func21, Tryd.ntmps21
  go_wp2_with fail
  refine (pmany_any 4 (tab.getD 4 []) rfl n H1.out H2.out g B l w HR.out HP.out (by omega) hBw).mono ?_
  rintro e w5 ⟨rfl, hp5, hb5⟩
  have HP5 := hid hp5
  have HB5 := hid hb5
  clear hp5 hb5
  go_wp2
  go_ret
  exact ⟨rfl, HP5.out, HB5.out⟩
set_option maxRecDepth 100000 in
set_option maxHeartbeats 2000000 in
theorem pMap_nil (n : Int) (w : World) :
    Calls Tryd.prog 21 #[.pointer none, .int .i64 n] w fun e w' => e = .returned (.int .i64 1) ∧ w' = w := by
  go_enter Tryd.func21, Tryd.ntmps21
  go_wp2_with fail
  refine (pmany_nil 4 n w).mono ?_
  rintro e w5 ⟨rfl, rfl⟩
  go_wp2
  go_ret
  exact ⟨rfl, rfl⟩
end Go.Proofs.YtcfohdkdppiekaaDoor
