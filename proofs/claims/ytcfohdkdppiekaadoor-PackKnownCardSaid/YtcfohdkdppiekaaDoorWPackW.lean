/- pack's writer: Num, many, whole, Bin, Str, List, Map, Text, Len, New: contracts. -/
import Derived.Test.YtcfohdkdppiekaaDoorWHead
import Derived.Shelf.Strings.BuilderK
namespace Go.Proofs.YtcfohdkdppiekaaDoor
open Go.RowKit Go.Proofs
theorem pick_len : ∀ (rs : List Rw), (∀ r ∈ rs, okRow r) → ∀ n, (pick rs n).length ≤ 9
  | [], _, n => by simp [pick]
  | r :: rs, h, n => by
    unfold pick layRow
    have h1 := (h r (by simp)).2.2.1
    have h2 := pick_len rs (fun r hr => h r (by simp [hr])) n
    split
    · split
      · simp
      · simp [be_len]; omega
    · exact h2
theorem tab_mem {sort : Nat} {rs : List Rw} (h : tab[sort]? = some rs) : ∀ r ∈ rs, okRow r := tab_ok rs (List.mem_of_getElem? h)
def mcode (n : Int) : Int := if n < 0 then 2 else if 65536 ≤ n then 3 else 0
def mlay (rs : List Rw) (n : Int) : List UInt8 := if mcode n = 0 then pick rs n.toNat else []
set_option maxRecDepth 100000 in
set_option maxHeartbeats 2000000 in
theorem pnew_any (w : World) :
    Calls Tryd.prog 8 #[] w fun e w' => ∃ g, e = .returned (.pointer (some ⟨g, 0, none⟩)) ∧ g = w.heap.size ∧ isP w' w.heap.size g [] ∧ Below w.heap.size w w' := by
  go_enter Tryd.func8, Tryd.ntmps8
  go_wp2
  go_ret
  refine ⟨_, rfl, rfl, ⟨Nat.le_refl _, none, 0, 0, arr.new w _ _, ⟨by simp [bcs], Or.inl ⟨rfl, rfl⟩⟩⟩, (Below.refl _ _).alloc (Nat.le_refl _) _⟩
set_option maxRecDepth 100000 in
set_option maxHeartbeats 2000000 in
theorem plen_any (g B : Nat) (l : List UInt8) (w : World) (hp : isP w B g l) :
    Calls Tryd.prog 12 #[.pointer (some ⟨g, 0, none⟩)] w fun e w' => e = .returned (.int .i64 (l.length : Int)) ∧ w' = w := by
  obtain ⟨hB, A, n, c, ha, ho⟩ := hp
  have cg := ha.cell 0 _ rfl
  have lg := ha.lt
  have hn : n = l.length := by
    rcases ho.2 with ⟨h1, h2⟩ | ⟨k, cap, cur, h1, _⟩
    · simp only [Value.slice.injEq] at h1
      rw [h1.2.1, h2]
    · simp only [Value.slice.injEq] at h1
      exact h1.2.1
  subst hn
  clear ho ha
  go_enter Tryd.func12, Tryd.ntmps12
  go_wp2
  go_ret
  exact ⟨rfl, rfl⟩
set_option maxRecDepth 100000 in
set_option maxHeartbeats 2000000 in
theorem plen_nil (w : World) :
    Calls Tryd.prog 12 #[.pointer none] w fun e w' => e = .returned (.int .i64 0) ∧ w' = w := by
  go_enter Tryd.func12, Tryd.ntmps12
  go_wp2
  go_ret
  exact ⟨rfl, rfl⟩
set_option maxRecDepth 100000 in
set_option maxHeartbeats 2000000 in
theorem ptext_any (g B : Nat) (l : List UInt8) (w : World) (hp : isP w B g l) :
    Calls Tryd.prog 13 #[.pointer (some ⟨g, 0, none⟩)] w fun e w' => e = .returned (.string ⟨l.toArray⟩) ∧ w' = w := by
  obtain ⟨hB, A, n, c, ha, ho⟩ := hp
  have cg := ha.cell 0 _ rfl
  have lg := ha.lt
  go_enter Tryd.func13, Tryd.ntmps13
  go_wp2_with (refine wpList_text rfl _ rfl (base := B) (.slice A n c) l rfl ho ?_)
  go_ret
  exact ⟨rfl, rfl⟩
set_option maxRecDepth 100000 in
set_option maxHeartbeats 2000000 in
theorem ptext_nil (w : World) :
    Calls Tryd.prog 13 #[.pointer none] w fun e w' => e = .returned (.string ⟨#[]⟩) ∧ w' = w := by
  go_enter Tryd.func13, Tryd.ntmps13
  go_wp2
  go_ret
  exact ⟨rfl, rfl⟩
set_option maxRecDepth 100000 in
set_option maxHeartbeats 2000000 in
theorem pnum_any (n : Nat) (hn64 : n < 2 ^ 64) (g B : Nat) (l : List UInt8) (w : World) (hR : RowsIn w B) (hp : isP w B g l) (hl : l.length ≤ 10000000000) (hBw : B ≤ w.heap.size) :
    Calls Tryd.prog 15 #[.pointer (some ⟨g, 0, none⟩), .int .u64 (n : Int)] w fun e w' => e = .returned (.int .i64 0) ∧ isP w' B g (l ++ pick (tab.getD 0 []) n) ∧ Below B w w' := by
  have HR := hid hR
  have HP := hid hp
  clear hR hp
  go_enter Tryd.func15, Tryd.ntmps15
  go_wp2_with fail
  refine (head_any 0 n (tab.getD 0 []) rfl hn64 g B l w HR.out HP.out hl hBw).mono ?_
  rintro e w5 ⟨rfl, hp5, hb5⟩
  have HP5 := hid hp5
  have HB5 := hid hb5
  clear hp5 hb5
  go_wp2
  go_ret
  exact ⟨rfl, HP5.out, HB5.out⟩
set_option maxRecDepth 100000 in
set_option maxHeartbeats 2000000 in
theorem pnum_nil (n : Int) (w : World) :
    Calls Tryd.prog 15 #[.pointer none, .int .u64 n] w fun e w' => e = .returned (.int .i64 1) ∧ w' = w := by
  go_enter Tryd.func15, Tryd.ntmps15
  go_wp2
  go_ret
  exact ⟨rfl, rfl⟩
set_option maxRecDepth 100000 in
set_option maxHeartbeats 2000000 in
theorem pmany_any (sort : Nat) (rs : List Rw) (hrs : tab[sort]? = some rs) (n : Int) (hn1 : -9223372036854775808 ≤ n) (hn2 : n < 9223372036854775808) (g B : Nat) (l : List UInt8) (w : World) (hR : RowsIn w B) (hp : isP w B g l) (hl : l.length ≤ 10000000000) (hBw : B ≤ w.heap.size) :
    Calls Tryd.prog 30 #[.pointer (some ⟨g, 0, none⟩), .int .i64 (sort : Int), .int .i64 n] w fun e w' => e = .returned (.int .i64 (mcode n)) ∧ isP w' B g (l ++ mlay rs n) ∧ Below B w w' := by
  have HR := hid hR
  have HP := hid hp
  have HRS := hid hrs
  clear hR hp hrs
  by_cases h1 : n < 0
  · have hm : mcode n = 2 := by unfold mcode; rw [if_pos h1]
    have hl2 : mlay rs n = [] := by unfold mlay; rw [hm]; rfl
    rw [hm, hl2, List.append_nil]
    clear hm hl2
    go_enter Tryd.func30, Tryd.ntmps30
    go_wp2
    go_ret
    exact ⟨rfl, HP.out, Below.refl _ _⟩
  · by_cases h2 : 65536 ≤ n
    · have hm : mcode n = 3 := by unfold mcode; rw [if_neg h1, if_pos h2]
      have hl2 : mlay rs n = [] := by unfold mlay; rw [hm]; rfl
      rw [hm, hl2, List.append_nil]
      clear hm hl2
      go_enter Tryd.func30, Tryd.ntmps30
      go_wp2
      go_ret
      exact ⟨rfl, HP.out, Below.refl _ _⟩
    · have hm : mcode n = 0 := by unfold mcode; rw [if_neg h1, if_neg h2]
      have hl2 : mlay rs n = pick rs n.toNat := by unfold mlay; rw [hm]; rfl
      rw [hm, hl2]
      clear hm hl2
      obtain ⟨k, rfl⟩ : ∃ k : Nat, n = (k : Int) := ⟨n.toNat, by omega⟩
      rw [Int.toNat_natCast]
      go_enter Tryd.func30, Tryd.ntmps30
      go_wp2_with fail
      refine (head_any sort k rs HRS.out (by omega) g B l w HR.out HP.out hl hBw).mono ?_
      rintro e w5 ⟨rfl, hp5, hb5⟩
      have HP5 := hid hp5
      have HB5 := hid hb5
      clear hp5 hb5
      go_wp2
      go_ret
      exact ⟨rfl, HP5.out, HB5.out⟩
set_option maxRecDepth 100000 in
set_option maxHeartbeats 2000000 in
theorem pmany_nil (sort n : Int) (w : World) :
    Calls Tryd.prog 30 #[.pointer none, .int .i64 sort, .int .i64 n] w fun e w' => e = .returned (.int .i64 1) ∧ w' = w := by
  go_enter Tryd.func30, Tryd.ntmps30
  go_wp2
  go_ret
  exact ⟨rfl, rfl⟩
def wlay (rs : List Rw) (s : List UInt8) : List UInt8 := if s.length < 65536 then pick rs s.length ++ s else []
def wcode (s : List UInt8) : Int := if s.length < 65536 then 0 else 3
set_option maxRecDepth 100000 in
set_option maxHeartbeats 2000000 in
theorem pwhole_any (sort : Nat) (rs : List Rw) (hrs : tab[sort]? = some rs) (s : List UInt8) (hs : s.length ≤ 1000000) (g B : Nat) (l : List UInt8) (w : World) (hR : RowsIn w B) (hp : isP w B g l) (hl : l.length ≤ 1000000000) (hBw : B ≤ w.heap.size) :
    Calls Tryd.prog 31 #[.pointer (some ⟨g, 0, none⟩), .int .i64 (sort : Int), .string ⟨s.toArray⟩] w fun e w' => e = .returned (.int .i64 (wcode s)) ∧ isP w' B g (l ++ wlay rs s) ∧ Below B w w' := by
  obtain ⟨i0, hi, hz0, hz1, hz2⟩ := info_parts info_byte
  have HR := hid hR
  have HP := hid hp
  have HRS := hid hrs
  clear hR hp hrs
  by_cases h1 : s.length < 65536
  · have hm : mcode (s.length : Int) = 0 := by unfold mcode; rw [if_neg (by omega), if_neg (by omega)]
    have hl2 : mlay rs (s.length : Int) = pick rs s.length := by unfold mlay; rw [hm]; rfl
    rw [wcode, wlay, if_pos h1, if_pos h1]
    have HM := hid hm
    have HL2 := hid hl2
    clear hm hl2
    go_enter Tryd.func31, Tryd.ntmps31
    go_wp2_with fail
    refine (pmany_any sort rs HRS.out (s.length : Int) (by omega) (by omega) g B l w HR.out HP.out (by omega) hBw).mono ?_
    rintro e w5 ⟨rfl, hp5, hb5⟩
    rw [HM.out]
    rw [HL2.out] at hp5
    have HB5 := hid hb5
    have hB5 : B ≤ w5.heap.size := Nat.le_trans hBw hb5.size
    obtain ⟨L, hL⟩ : ∃ L, L = l ++ pick rs s.length := ⟨_, rfl⟩
    have hLl : L.length ≤ 1000000100 := by rw [hL, List.length_append]; have := pick_len rs (tab_mem HRS.out) s.length; omega
    rw [← hL] at hp5
    have HL := hid hL
    obtain ⟨hB, A, n, c, ha, ho⟩ := hp5
    have cg := ha.cell 0 _ rfl
    have lg := ha.lt
    have hll : (bcs L).length = L.length := bcs_len L
    have HLL := hid hll
    have HA := hid ha
    clear hb5 hL hll ha
    unfold own at ho
    go_wp2_with (at_builtin; go_must (refine Lib.wpList_append_own_string _ rfl _ _ 48 9 rfl B 5 i0 Tryd.underlying48 Tryd.underlying9 hi hz0 hz1 hz2 _ _ _ rfl ho ⟨s.toArray⟩ rfl ?c3 ?c4 ?c5 ?_))
    case c3 => unfold maxLen; simp [ByteArray.size]; omega
    case c4 => simp [ByteArray.size]; omega
    case c5 => omega
    intro v' w2 hown' hgrow _
    have e : Lib.strCells ⟨s.toArray⟩ = bcs s := by simp [Lib.strCells, bcs]
    rw [e, ← bcs_app] at hown'
    have ho2 : own w2 B v' (L ++ s) := by
      unfold own
      rw [List.length_append]
      exact hown'
    obtain ⟨A7, n7, k7, rfl⟩ := own_form ho2
    obtain ⟨hp8, hb8, a7⟩ := isP.put hB HA.out ho (Below.refl w5.heap.size w5) hgrow ho2 hB5
    have c7 := a7.cell 0 _ rfl
    have f7 := a7.free 0
    have HP8 := hid hp8
    have HB8 := hid (HB5.out.trans hb8)
    clear hp8 hb8 ho2 hown' ho e hgrow a7
    go_wp2
    go_ret
    refine ⟨rfl, ?_, HB8.out⟩
    rw [← List.append_assoc, ← HL.out]; exact HP8.out
  · have hm : mcode (s.length : Int) = 3 := by unfold mcode; rw [if_neg (by omega), if_pos (by omega)]
    have hl2 : mlay rs (s.length : Int) = [] := by unfold mlay; rw [hm]; rfl
    rw [wcode, wlay, if_neg h1, if_neg h1]
    have HM := hid hm
    have HL2 := hid hl2
    clear hm hl2
    go_enter Tryd.func31, Tryd.ntmps31
    go_wp2_with fail
    refine (pmany_any sort rs HRS.out (s.length : Int) (by omega) (by omega) g B l w HR.out HP.out (by omega) hBw).mono ?_
    rintro e w5 ⟨rfl, hp5, hb5⟩
    rw [HM.out]
    rw [HL2.out] at hp5
    have HP5 := hid hp5
    have HB5 := hid hb5
    clear hp5 hb5
    go_wp2
    go_ret
    exact ⟨rfl, HP5.out, HB5.out⟩
end Go.Proofs.YtcfohdkdppiekaaDoor
