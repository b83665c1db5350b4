/- The law WindowPlays: walk. -/
import Derived.Test.YtcfohdkdppiekaaWRefWin2
import Derived.Test.YtcfohdkdppiekaaOpenRows
namespace Go.Proofs.Ytcfohdkdppiekaa
open Go Go.RowKit Go.Proofs Go.ChangeShapes Go.WideShapes
/-- an act: put, how far off, the first round, rounds, the letter, short -/
structure ActR where
  put : Bool
  off : { x : Int // -128 ≤ x ∧ x ≤ 127 }
  fst : { x : Nat // x < 18446744073709551616 }
  rnd : { x : Nat // x ≤ 255 }
  let_ : UInt8
  short : Bool
instance : Inhabited ActR := ⟨⟨false, ⟨0, by decide⟩, ⟨0, by decide⟩, ⟨0, by decide⟩, 0, false⟩⟩
def ActR.cs (t : ActR) : List Value := [.bool t.put, .int .i8 t.off.1, .int .u64 (t.fst.1 : Int), .int .u8 (t.rnd.1 : Int), .int .u8 (t.let_.toNat : Int), .bool t.short]
theorem act_cellsB : Try.prog.cellsOf 4 = 1 := by kernel_rfl
theorem act_cells8 : Try.prog.cellsOf 51 = 1 := by kernel_rfl
theorem act_cells64 : Try.prog.cellsOf 32 = 1 := by kernel_rfl
theorem act_cellsU : Try.prog.cellsOf 5 = 1 := by kernel_rfl
theorem act_cells : Try.prog.cellsOf 53 = 6 := by kernel_rfl
section
variable {H : Type} {enc : TypeId × Value → H} {w : World} {spare : Nat → Bool} {held : Bool}
set_option maxRecDepth 100000 in
theorem act_of (l : List Value) (fuel : Nat) (x : DataW H × List MemPlace) (hl : l.length = 6) (h : DataW.trod enc Try.prog w 0 spare held fuel 53 l = some x) : ∃ t : ActR, l = t.cs := by
  obtain ⟨ys, n', _, hy, _, hyl, hf⟩ := DataW.trod_struct Try.underlying53 h
  match l, ys, hl, hyl, hf with
  | [k0, k1, k2, k3, k4, k5], [z0, z1, z2, z3, z4, z5], _, _, hf =>
    have f0 : DataW.trod enc Try.prog w 0 spare held n' 4 (([k0, k1, k2, k3, k4, k5].drop 0).take (Try.prog.cellsOf 4)) = some z0 := hf 0 _ rfl
    have f1 : DataW.trod enc Try.prog w 0 spare held n' 51 (([k0, k1, k2, k3, k4, k5].drop 1).take (Try.prog.cellsOf 51)) = some z1 := hf 1 _ rfl
    have f2 : DataW.trod enc Try.prog w 0 spare held n' 32 (([k0, k1, k2, k3, k4, k5].drop 2).take (Try.prog.cellsOf 32)) = some z2 := hf 2 _ rfl
    have f3 : DataW.trod enc Try.prog w 0 spare held n' 5 (([k0, k1, k2, k3, k4, k5].drop 3).take (Try.prog.cellsOf 5)) = some z3 := hf 3 _ rfl
    have f4 : DataW.trod enc Try.prog w 0 spare held n' 5 (([k0, k1, k2, k3, k4, k5].drop 4).take (Try.prog.cellsOf 5)) = some z4 := hf 4 _ rfl
    have f5 : DataW.trod enc Try.prog w 0 spare held n' 4 (([k0, k1, k2, k3, k4, k5].drop 5).take (Try.prog.cellsOf 4)) = some z5 := hf 5 _ rfl
    rw [act_cellsB] at f0 f5
    rw [act_cells8] at f1
    rw [act_cells64] at f2
    rw [act_cellsU] at f3 f4
    obtain ⟨b0, q0, _⟩ := DataW.trod_bool Try.underlying4 f0
    obtain ⟨n1, q1, _, wf1⟩ := DataW.trod_int Try.underlying51 f1
    obtain ⟨n2, q2, _, wf2⟩ := DataW.trod_int Try.underlying32 f2
    obtain ⟨n3, q3, _, wf3⟩ := DataW.trod_int Try.underlying5 f3
    obtain ⟨n4, q4, _, wf4⟩ := DataW.trod_int Try.underlying5 f4
    obtain ⟨b5, q5, _⟩ := DataW.trod_bool Try.underlying4 f5
    have r1 := bounds_i8 wf1
    have r2 := bounds_u64 wf2
    have r3 := bounds_u8 wf3
    have r4 := bounds_u8 wf4
    simp at q0 q1 q2 q3 q4 q5
    refine ⟨⟨b0, ⟨n1, r1⟩, ⟨n2.toNat, by omega⟩, ⟨n3.toNat, by omega⟩, UInt8.ofNat n4.toNat, b5⟩, ?_⟩
    have e2 : ((n2.toNat : Nat) : Int) = n2 := Int.toNat_of_nonneg r2.1
    have e3 : ((n3.toNat : Nat) : Int) = n3 := Int.toNat_of_nonneg r3.1
    have e4 : (((UInt8.ofNat n4.toNat).toNat : Nat) : Int) = n4 := by rw [UInt8.toNat_ofNat']; omega
    simp only [ActR.cs]
    rw [q0, q1, q2, q3, q4, q5, e2, e3, e4]
set_option maxRecDepth 100000 in
theorem open_acts {b0 : Nat} {r : Reach} {v : Value} {d : DataW H} {ps : List MemPlace} (hv : Value.okWide Try.prog w r b0 46 v) (h : DataW.Trod enc Try.prog w 0 spare held 46 v d ps) (_ : ∀ x ∈ ps, x.block < w.heap.size) :
    ∃ L : List ActR, rowsRead w w.heap.size 6 ActR.cs v L :=
  open_rows ActR.cs (fun _ => rfl) (by decide) Try.underlying46 act_cells (fun l f x hl ht => act_of l f x hl ht) hv h
end
set_option maxRecDepth 100000 in
set_option maxHeartbeats 1000000 in
/-- the first round of an act: some number -/
theorem first24_any (t : ActR) (nx : Nat) (hnx : nx < 18446744073709551616) (is : Bool) (w : World) :
    ∃ f : Nat, f < 18446744073709551616 ∧ Calls Try.prog 53 #[.agg t.cs.toArray, .int .u64 (nx : Int), .bool is] w fun e w' => e = .returned (.int .u64 (f : Int)) ∧ Below w.heap.size w w' := by
  obtain ⟨put, ⟨off, ho⟩, ⟨fs, hfs⟩, ⟨rd, hrd⟩, lt, sh⟩ := t
  unfold ActR.cs
  simp only
  cases is
  · refine ⟨fs, hfs, ?_⟩
    go_enter Try.func53, Try.ntmps53
    go_wp2
    go_ret
    exact ⟨rfl, (Below.refl _ _).alloc (Nat.le_refl _) _⟩
  · by_cases h1 : off = 127
    · subst h1
      refine ⟨fs, hfs, ?_⟩
      go_enter Try.func53, Try.ntmps53
      go_wp2
      go_ret
      exact ⟨rfl, (Below.refl _ _).alloc (Nat.le_refl _) _⟩
    · by_cases h2 : off.tmod 4 = 3
      · obtain ⟨z, hz⟩ : ∃ z : Nat, z < 18446744073709551616 ∧ IntKind.u64.wrap ((nx : Int) + IntKind.u64.wrap off) = (z : Int) := by
          have := IntKind.wrap_u64 ((nx : Int) + IntKind.u64.wrap off)
          refine ⟨(IntKind.u64.wrap ((nx : Int) + IntKind.u64.wrap off)).toNat, ?_, ?_⟩ <;> rw [this] <;> omega
        refine ⟨z, hz.1, ?_⟩
        have hz2 := hz.2
        go_enter Try.func53, Try.ntmps53
        go_wp2
        go_ret
        exact ⟨rfl, (Below.refl _ _).alloc (Nat.le_refl _) _⟩
      · refine ⟨nx, hnx, ?_⟩
        have h2' : (off.tmod 4 != 3) = true := by simpa using h2
        go_enter Try.func53, Try.ntmps53
        go_wp2
        go_ret
        exact ⟨rfl, (Below.refl _ _).alloc (Nat.le_refl _) _⟩
def nx (L : List Iv) : Nat := (nxr L).getD 0
def nb (L : List Iv) : Bool := (nxr L).isSome
theorem nx_lt (L : List Iv) (hc : Cont L) : nx L < 18446744073709551616 := by
  unfold nx nxr
  cases hx : L.getLast? with
  | none => simp
  | some x =>
    have hk := (hc.ok x (List.mem_of_getLast? hx)).2.2.2
    simp; omega
theorem wnext_v (g most : Nat) (L : List Iv) (w : World) (h : isW w g most L) :
    Calls Try.prog 59 #[.pointer (some ⟨g, 0, none⟩)] w fun e w' => e = .returned (.tuple #[.int .u64 (nx L : Nat), .bool (nb L)]) ∧ Below w.heap.size w w' := by
  cases hx : L.getLast? with
  | none =>
    obtain rfl : L = [] := by simpa using hx
    refine (wnext_none g most w h).mono ?_
    rintro e w' ⟨rfl, rfl⟩
    exact ⟨rfl, Below.refl _ _⟩
  | some x =>
    have e : nx L = x.2.1 + 1 ∧ nb L = true := by simp [nx, nb, nxr, hx]
    rw [e.1, e.2]
    exact wnext_some g most L x hx w h
theorem rnext_v (base g most : Nat) (L : List Iv) (hc : Cont L) (w : World) (h : isR w base g most L) :
    Calls Try.prog 52 #[.pointer (some ⟨g, 0, none⟩)] w fun e w' => e = .returned (.tuple #[.int .u64 (nx L : Nat), .bool (nb L)]) ∧ Below w.heap.size w w' := by
  cases hx : L.getLast? with
  | none =>
    obtain rfl : L = [] := by simpa using hx
    refine (rnext_none base g most w h).mono ?_
    rintro e w' ⟨rfl, rfl⟩
    exact ⟨rfl, Below.refl _ _⟩
  | some x =>
    have e : nx L = x.2.1 + 1 ∧ nb L = true := by simp [nx, nb, nxr, hx]
    have hk := (hc.ok x (List.mem_of_getLast? hx)).2.2.2
    rw [e.1, e.2]
    exact rnext_some base g most L x hx hk w h
theorem wrapN (x : Int) : ∃ z : Nat, z < 18446744073709551616 ∧ IntKind.u64.wrap x = (z : Int) := by
  have := IntKind.wrap_u64 x
  refine ⟨(IntKind.u64.wrap x).toNat, ?_, ?_⟩ <;> rw [this] <;> omega
theorem fin_both (L : List Iv) (q : Nat) : ∃ (a b : Nat) (s : List UInt8) (e : Nat), finV L q = .tuple #[.int .u64 (a : Int), .int .u64 (b : Int), .string ⟨s.toArray⟩, .int .i64 (e : Int)] ∧ rfinV L q = .tuple #[.agg #[.int .u64 (a : Int), .int .u64 (b : Int), .string ⟨s.toArray⟩], .int .i64 (e : Int)] := by
  unfold finV rfinV
  cases fin L q with
  | none => exact ⟨0, 0, [], finE L q, rfl, rfl⟩
  | some x => exact ⟨x.1, x.2.1, x.2.2, 0, rfl, rfl⟩
/-- both windows -/
structure PS (w : World) (gw gr n : Nat) (L : List Iv) (W : World) : Prop where
  win : isW W gw n L
  ref : isR W gr gr n L
  below : Below w.heap.size w W
  hi : w.heap.size ≤ gw
  lt : gw < gr
theorem PS.quiet {w W W' : World} {gw gr n : Nat} {L : List Iv} (h : PS w gw gr n L W) (hb : Below W.heap.size W W') : PS w gw gr n L W' := ⟨h.win.keep hb, h.ref.keep hb, below_all h.below hb, h.hi, h.lt⟩
theorem PS.cont {w W : World} {gw gr n : Nat} {L : List Iv} (h : PS w gw gr n L W) : Cont L ∧ L.length ≤ n ∧ 1 ≤ n ∧ n ≤ 32 ∧ gr < W.heap.size := by
  obtain ⟨cs, p, h1, h2, h3, h4, h5, h6⟩ := h.win
  obtain ⟨v, a1, _⟩ := h.ref
  exact ⟨h5, h2, h3, h4, a1.lt⟩
theorem isW.below {w w' : World} {g most B : Nat} {L : List Iv} (h : isW w g most L) (hb : Below B w w') (hg : g < B) : isW w' g most L := by
  obtain ⟨cs, p, h1, h2, h3, h4, h5, h6⟩ := h
  exact ⟨cs, p, h1, h2, h3, h4, h5, h6.below hb hg⟩
set_option maxRecDepth 100000 in
set_option maxHeartbeats 8000000 in
theorem plays24 (m : Int) (hm : -9223372036854775808 ≤ m ∧ m ≤ 9223372036854775807) (A : List ActR) (v : Value) (w : World) (hv : rowsRead w w.heap.size 6 ActR.cs v A) : Calls Try.prog 11 #[.int .i64 m, v] w fun e w' => e = .returned (.bool true) ∧ Below w.heap.size w w' := by
  obtain ⟨A0, c, rfl, hlc, hc, hx⟩ := hv
  have HX := hid hx
  clear hx
  by_cases hm2 : m < 1 ∨ 32 < m
  · have HM := hid hm2
    clear hm2
    go_enter Try.func11, Try.ntmps11
    go_wp2_with fail
    refine (wnew_bad m HM.out w).mono ?_
    rintro e w1 ⟨rfl, hw1⟩
    subst w1
    go_wp2_with fail
    refine (rnew_bad m HM.out w).mono ?_
    rintro e w1 ⟨rfl, hw1⟩
    subst w1
    go_wp2_with fail
    refine (works24_any w).mono ?_
    rintro e w1 ⟨rfl, b1⟩
    have B1 := hid b1
    clear b1
    go_wp2
    go_ret
    exact ⟨rfl, B1.out⟩
  · obtain ⟨n, rfl⟩ : ∃ n : Nat, m = (n : Int) := ⟨m.toNat, by omega⟩
    have hn1 : 1 ≤ n := by omega
    have hn32 : n ≤ 32 := by omega
    have HN1 := hid hn1
    have HN32 := hid hn32
    clear hm hm2 hn1 hn32
    go_enter Try.func11, Try.ntmps11
    go_wp2_with fail
    refine (wnew_any n HN1.out HN32.out w).mono ?_
    rintro e w1 ⟨rfl, i1, b1⟩
    obtain ⟨gw, hgw⟩ : ∃ g, g = w.heap.size := ⟨_, rfl⟩
    rw [← hgw] at i1
    rw [← hgw]
    have I1 := hid i1
    have B1 := hid b1
    have HGW := hid hgw
    clear i1 b1 hgw
    go_wp2_with fail
    refine (rnew_any n HN1.out HN32.out w1).mono ?_
    rintro e w2 ⟨rfl, i2, b2⟩
    obtain ⟨gr, hgr⟩ : ∃ g, g = w1.heap.size := ⟨_, rfl⟩
    rw [← hgr] at i2
    rw [← hgr]
    have P2 := hid (PS.mk (I1.out.keep b2) i2 (below_all B1.out b2) (by have := HGW.out; omega) (by have := I1.out.lt; omega))
    clear i2 b2 I1 B1 hgr
    go_wp2_with fail
    go_loopw [7] (fun i wr => ∃ (k : Nat) (L : List Iv), k ≤ 60 ∧ k ≤ A.length ∧ i = .int .i64 k ∧ PS w gw gr n L wr) (fun i _ => 60 - (intOf i).toNat)
    case atStart => exact ⟨0, [], by omega, by omega, rfl, P2.out⟩
    case round =>
      obtain ⟨k, L, hk60, hkl, rfl, hs⟩ := hrel
      have HS := hid hs
      clear hs P2
      by_cases hlk : k < A.length
      · by_cases h60 : k < 60
        · obtain ⟨t, ht⟩ : ∃ t, A[k]? = some t := ⟨_, List.getElem?_eq_getElem hlk⟩
          obtain ⟨b, off, rfl, hbw, hcell⟩ := HX.out k t ht
          have y0 := (HS.out.below.cell (p := ⟨b, off + k * 6 + 0, none⟩) hbw).trans (hcell 0 _ rfl)
          have y1 := (HS.out.below.cell (p := ⟨b, off + k * 6 + 1, none⟩) hbw).trans (hcell 1 _ rfl)
          have y2 := (HS.out.below.cell (p := ⟨b, off + k * 6 + 2, none⟩) hbw).trans (hcell 2 _ rfl)
          have y3 := (HS.out.below.cell (p := ⟨b, off + k * 6 + 3, none⟩) hbw).trans (hcell 3 _ rfl)
          have y4 := (HS.out.below.cell (p := ⟨b, off + k * 6 + 4, none⟩) hbw).trans (hcell 4 _ rfl)
          have y5 := (HS.out.below.cell (p := ⟨b, off + k * 6 + 5, none⟩) hbw).trans (hcell 5 _ rfl)
          rw [Nat.add_zero] at y0
          have lb : b < wr.heap.size := Nat.lt_of_lt_of_le hbw HS.out.below.size
          have hlk' : (k : Int) < (A.length : Int) := by omega
          have h60' : (k : Int) < 60 := by omega
          clear hcell ht hbw
          obtain ⟨put, off_, fs, rd, lt_, sh⟩ := t
          obtain ⟨bx, hbx⟩ : ∃ bx, bx = wr.heap.size := ⟨_, rfl⟩
          obtain ⟨cs, hcs⟩ : ∃ cs : List Value, cs = ActR.cs ⟨put, off_, fs, rd, lt_, sh⟩ := ⟨_, rfl⟩
          have X3 : arr (wr.alloc (.cells #[.bool put, .int .i8 off_.1, .int .u64 (fs.1 : Int), .int .u8 (rd.1 : Int), .int .u8 (lt_.toNat : Int), .bool sh] 53)) bx 53 [.bool put, .int .i8 off_.1, .int .u64 (fs.1 : Int), .int .u8 (rd.1 : Int), .int .u8 (lt_.toNat : Int), .bool sh] := by rw [hbx]; exact arr.new wr _ _
          have B3 : Below wr.heap.size wr (wr.alloc (.cells #[.bool put, .int .i8 off_.1, .int .u64 (fs.1 : Int), .int .u8 (rd.1 : Int), .int .u8 (lt_.toNat : Int), .bool sh] 53)) := (Below.refl _ _).alloc (Nat.le_refl _) _
          go_wp2_with fail
          rw [← hbx]
          generalize (wr.alloc (.cells #[.bool put, .int .i8 off_.1, .int .u64 (fs.1 : Int), .int .u8 (rd.1 : Int), .int .u8 (lt_.toNat : Int), .bool sh] 53)) = W3 at X3 B3 ⊢
          have S3 := hid (HS.out.quiet B3)
          have NW := hid (show bx ≠ gw by have := HS.out.win.lt; omega)
          have HX3 := hid X3
          clear B3 X3 hcs y0 y1 y2 y3 y4 y5 lb HS hbx
          refine (rnext_v gr gr n L S3.out.cont.1 W3 S3.out.ref).mono ?_
          rintro e W4 ⟨rfl, b4⟩
          have S4 := hid (S3.out.quiet b4)
          have HX4 := HX3.out.keep b4
          have x0 := HX4.cell 0 _ rfl
          have x1 := HX4.cell 1 _ rfl
          have x2 := HX4.cell 2 _ rfl
          have x3 := HX4.cell 3 _ rfl
          have x4 := HX4.cell 4 _ rfl
          have x5 := HX4.cell 5 _ rfl
          have lx := HX4.lt
          have X4 := hid HX4
          clear b4 S3 HX3 HX4
          go_wp2_with fail
          obtain ⟨f, hf, hfc⟩ := first24_any ⟨put, off_, fs, rd, lt_, sh⟩ (nx L) (nx_lt L S4.out.cont.1) (nb L) W4
          refine hfc.mono ?_
          rintro e W5 ⟨rfl, b5⟩
          have S5 := hid (S4.out.quiet b5)
          have HX5 := X4.out.keep b5
          have z0 := HX5.cell 0 _ rfl
          have z1 := HX5.cell 1 _ rfl
          have z2 := HX5.cell 2 _ rfl
          have z3 := HX5.cell 3 _ rfl
          have z4 := HX5.cell 4 _ rfl
          have z5 := HX5.cell 5 _ rfl
          have lz := HX5.lt
          have X5 := hid HX5
          clear b5 S4 X4 HX5 x0 x1 x2 x3 x4 x5 lx hfc
          cases put
          · obtain ⟨q, hq, hwq⟩ := wrapN ((f : Int) - (rd.1 : Int))
            obtain ⟨fa, fb, fc, fe, hfv, hrv⟩ := fin_both L q
            have HFV := hid hfv
            have HRV := hid hrv
            clear hfv hrv
            go_wp2_with fail
            refine (find_any gw n L q W5 S5.out.win).mono ?_
            rintro e W6 ⟨rfl, b6⟩
            have S6 := hid (S5.out.quiet b6)
            have HX6 := X5.out.keep b6
            clear z0 z1 z2 z3 z4 z5 lz b6 S5 X5
            have z3 := HX6.cell 3 _ rfl
            have lz := HX6.lt
            rw [HFV.out]
            go_wp2_with fail
            refine (rfind_any gr gr n L S6.out.cont.1 (Nat.le_trans S6.out.cont.2.1 HN32.out) q W6 S6.out.ref).mono ?_
            rintro e W7 ⟨rfl, b7⟩
            have S7 := hid (S6.out.quiet b7)
            clear z3 lz b7 S6 HX6
            rw [HRV.out]
            go_wp2_with fail
            have S8 := hid (S7.out.quiet ((Below.refl W7.heap.size W7).alloc (Nat.le_refl _) (.cells #[.int .u64 (fa : Int), .int .u64 (fb : Int), .string ⟨fc.toArray⟩] 63)))
            generalize (W7.alloc (.cells #[.int .u64 (fa : Int), .int .u64 (fb : Int), .string ⟨fc.toArray⟩] 63)) = W8 at S8 ⊢
            clear S7 HFV HRV
            refine (wnext_v gw n L W8 S8.out.win).mono ?_
            rintro e V1 ⟨rfl, c1⟩
            have R1 := hid (S8.out.quiet c1)
            clear c1 S8
            go_wp2_with fail
            refine (rnext_v gr gr n L R1.out.cont.1 V1 R1.out.ref).mono ?_
            rintro e V2 ⟨rfl, c2⟩
            have R2 := hid (R1.out.quiet c2)
            clear c2 R1
            go_wp2_with fail
            obtain ⟨rv, ra, rr, -⟩ := R2.out.ref
            obtain ⟨RA, rc, rfl, -⟩ := rr.form
            have hS : V2.drew.cell? ⟨gr, 1, none⟩ = some (.slice RA (L).length rc) ∧ gr < V2.drew.heap.size := ⟨ra.cell 1 _ rfl, ra.lt⟩
            have HSS := hid hS
            clear ra rr
            refine wp_region_sq (fun W' => W'.cell? ⟨gr, 1, none⟩ = some (.slice RA (L).length rc) ∧ gr < W'.heap.size) [(true, 0), (true, 1), (true, 2), (true, 3), (true, 4), (true, 5), (true, 6), (true, 7), (true, 8), (true, 9), (true, 11), (true, 12), (true, 13), (true, 14), (true, 15), (false, 10), (true, 16), (true, 17), (true, 18), (true, 19), (true, 21), (false, 20), (false, 22), (true, 23)] 24 rfl (by kernel_rfl) (by kernel_rfl) (by kernel_rfl) (by decide) rfl (by kernel_rfl) hS ?_
            have R3 := hid (R2.out.quiet (Below.refl V2.heap.size V2).drew)
            clear hS R2
            generalize World.drew V2 = V3 at R3 HSS ⊢
            refine sq_soft rfl (by kernel_rfl) (fun W hW => (by obtain ⟨hW1, hW2⟩ := hW; go_simp; try rfl)) ?_; go_frame
            refine sq_soft rfl (by kernel_rfl) (fun W hW => (by obtain ⟨hW1, hW2⟩ := hW; go_simp; try rfl)) ?_; go_frame
            refine sq_soft rfl (by kernel_rfl) (fun W hW => (by obtain ⟨hW1, hW2⟩ := hW; go_simp; try rfl)) ?_; go_frame
            refine sq_soft rfl (by kernel_rfl) (fun W hW => (by obtain ⟨hW1, hW2⟩ := hW; go_simp; try rfl)) ?_; go_frame
            refine sq_soft rfl (by kernel_rfl) (fun W hW => (by obtain ⟨hW1, hW2⟩ := hW; go_simp; try rfl)) ?_; go_frame
            refine sq_soft rfl (by kernel_rfl) (fun W hW => (by obtain ⟨hW1, hW2⟩ := hW; go_simp; try rfl)) ?_; go_frame
            refine sq_soft rfl (by kernel_rfl) (fun W hW => (by obtain ⟨hW1, hW2⟩ := hW; go_simp; try rfl)) ?_; go_frame
            refine sq_soft rfl (by kernel_rfl) (fun W hW => (by obtain ⟨hW1, hW2⟩ := hW; go_simp; try rfl)) ?_; go_frame
            refine sq_soft rfl (by kernel_rfl) (fun W hW => (by obtain ⟨hW1, hW2⟩ := hW; go_simp; try rfl)) ?_; go_frame
            refine sq_soft rfl (by kernel_rfl) (fun W hW => (by obtain ⟨hW1, hW2⟩ := hW; go_simp; try rfl)) ?_; go_frame
            refine sq_soft rfl (by kernel_rfl) (fun W hW => (by obtain ⟨hW1, hW2⟩ := hW; go_simp; try rfl)) ?_; go_frame
            refine sq_soft rfl (by kernel_rfl) (fun W hW => (by obtain ⟨hW1, hW2⟩ := hW; go_simp; try rfl)) ?_; go_frame
            refine sq_soft rfl (by kernel_rfl) (fun W hW => (by obtain ⟨hW1, hW2⟩ := hW; go_simp; try rfl)) ?_; go_frame
            refine sq_soft rfl (by kernel_rfl) (fun W hW => (by obtain ⟨hW1, hW2⟩ := hW; go_simp; try rfl)) ?_; go_frame
            refine sq_soft rfl (by kernel_rfl) (fun W hW => (by obtain ⟨hW1, hW2⟩ := hW; go_simp; try rfl)) ?_; go_frame
            refine sq_op rfl (by kernel_rfl) ?_
            go_simp
            refine (wlen_any gw n L V3 R3.out.win).mono ?_
            rintro e V4 ⟨rfl, hV4⟩
            subst V4
            refine ⟨HSS.out, ?_⟩
            try go_frame
            refine sq_soft rfl (by kernel_rfl) (fun W hW => (by obtain ⟨hW1, hW2⟩ := hW; go_simp; try rfl)) ?_; go_frame
            refine sq_soft rfl (by kernel_rfl) (fun W hW => (by obtain ⟨hW1, hW2⟩ := hW; go_simp; try rfl)) ?_; go_frame
            refine sq_soft rfl (by kernel_rfl) (fun W hW => (by obtain ⟨hW1, hW2⟩ := hW; go_simp; try rfl)) ?_; go_frame
            refine sq_soft rfl (by kernel_rfl) (fun W hW => (by obtain ⟨hW1, hW2⟩ := hW; go_simp; try rfl)) ?_; go_frame
            refine sq_soft rfl (by kernel_rfl) (fun W hW => (by obtain ⟨hW1, hW2⟩ := hW; go_simp; try rfl)) ?_; go_frame
            refine sq_op rfl (by kernel_rfl) ?_
            go_simp
            refine (digest_any gw n L V3 R3.out.win).mono ?_
            rintro e V4 ⟨rfl, c4⟩
            have R4 := hid (R3.out.quiet c4)
            have HS4 : V4.cell? ⟨gr, 1, none⟩ = some (.slice RA (L).length rc) ∧ gr < V4.heap.size := ⟨(c4.cell (p := ⟨gr, 1, none⟩) HSS.out.2).trans HSS.out.1, Nat.lt_of_lt_of_le HSS.out.2 c4.size⟩
            have HSS4 := hid HS4
            refine ⟨HS4, ?_⟩
            clear c4 HSS R3 HS4
            try go_frame
            refine sq_op rfl (by kernel_rfl) ?_
            go_simp
            refine (rdigest_any gr gr n L R4.out.cont.1 (Nat.le_trans R4.out.cont.2.1 HN32.out) V4 R4.out.ref).mono ?_
            rintro e V5 ⟨rfl, c5⟩
            have R5 := hid (R4.out.quiet c5)
            have HS5 : V5.cell? ⟨gr, 1, none⟩ = some (.slice RA (L).length rc) ∧ gr < V5.heap.size := ⟨(c5.cell (p := ⟨gr, 1, none⟩) HSS4.out.2).trans HSS4.out.1, Nat.lt_of_lt_of_le HSS4.out.2 c5.size⟩
            refine ⟨HS5, ?_⟩
            clear c5 HSS4 R4 HS5
            try go_frame
            refine sq_soft rfl (by kernel_rfl) (fun W hW => (by obtain ⟨hW1, hW2⟩ := hW; go_simp; try rfl)) ?_; go_frame
            refine sched_done ?_
            go_wp2
            go_roundw
            case rel => exact ⟨k + 1, _, by omega, by omega, by go_num, R5.out⟩
            case measure => simp [intOf]; omega
          · obtain ⟨l1, hl1, hwl1⟩ := wrapN ((f : Int) + (rd.1 : Int) % 70)
            obtain ⟨l, hl, hwl⟩ := wrapN ((l1 : Int) - (rd.1 : Int) / 250)
            go_wp2_with fail
            refine wp_region_sq (fun W' => arr W' bx 53 [.bool true, .int .i8 off_.1, .int .u64 (fs.1 : Int), .int .u8 (rd.1 : Int), .int .u8 (lt_.toNat : Int), .bool sh]) [(true, 0), (true, 1), (true, 2), (true, 3), (true, 6), (true, 7), (true, 8), (true, 9), (false, 4), (false, 5), (false, 10)] 11 rfl (by kernel_rfl) (by kernel_rfl) (by kernel_rfl) (by decide) rfl (by kernel_rfl) X5.out.drew ?_
            have S6 := hid (S5.out.quiet (Below.refl W5.heap.size W5).drew)
            have X6 := hid X5.out.drew
            clear z0 z1 z2 z3 z4 z5 lz S5 X5
            generalize World.drew W5 = W6 at S6 X6 ⊢
            refine sq_soft rfl (by kernel_rfl) (fun W hW => (by have x0 := hW.cell 0 _ rfl; have x1 := hW.cell 1 _ rfl; have x2 := hW.cell 2 _ rfl; have x3 := hW.cell 3 _ rfl; have x4 := hW.cell 4 _ rfl; have x5 := hW.cell 5 _ rfl; have lx := hW.lt; clear hW; go_simp; try rfl)) ?_; go_frame
            refine sq_soft rfl (by kernel_rfl) (fun W hW => (by have x0 := hW.cell 0 _ rfl; have x1 := hW.cell 1 _ rfl; have x2 := hW.cell 2 _ rfl; have x3 := hW.cell 3 _ rfl; have x4 := hW.cell 4 _ rfl; have x5 := hW.cell 5 _ rfl; have lx := hW.lt; clear hW; go_simp; try rfl)) ?_; go_frame
            refine sq_soft rfl (by kernel_rfl) (fun W hW => (by have x0 := hW.cell 0 _ rfl; have x1 := hW.cell 1 _ rfl; have x2 := hW.cell 2 _ rfl; have x3 := hW.cell 3 _ rfl; have x4 := hW.cell 4 _ rfl; have x5 := hW.cell 5 _ rfl; have lx := hW.lt; clear hW; go_simp; try rfl)) ?_; go_frame
            refine sq_soft rfl (by kernel_rfl) (fun W hW => (by have x0 := hW.cell 0 _ rfl; have x1 := hW.cell 1 _ rfl; have x2 := hW.cell 2 _ rfl; have x3 := hW.cell 3 _ rfl; have x4 := hW.cell 4 _ rfl; have x5 := hW.cell 5 _ rfl; have lx := hW.lt; clear hW; go_simp; try rfl)) ?_; go_frame
            refine sq_soft rfl (by kernel_rfl) (fun W hW => (by have x0 := hW.cell 0 _ rfl; have x1 := hW.cell 1 _ rfl; have x2 := hW.cell 2 _ rfl; have x3 := hW.cell 3 _ rfl; have x4 := hW.cell 4 _ rfl; have x5 := hW.cell 5 _ rfl; have lx := hW.lt; clear hW; go_simp; try rfl)) ?_; go_frame
            refine sq_soft rfl (by kernel_rfl) (fun W hW => (by have x0 := hW.cell 0 _ rfl; have x1 := hW.cell 1 _ rfl; have x2 := hW.cell 2 _ rfl; have x3 := hW.cell 3 _ rfl; have x4 := hW.cell 4 _ rfl; have x5 := hW.cell 5 _ rfl; have lx := hW.lt; clear hW; go_simp; try rfl)) ?_; go_frame
            refine sq_soft rfl (by kernel_rfl) (fun W hW => (by have x0 := hW.cell 0 _ rfl; have x1 := hW.cell 1 _ rfl; have x2 := hW.cell 2 _ rfl; have x3 := hW.cell 3 _ rfl; have x4 := hW.cell 4 _ rfl; have x5 := hW.cell 5 _ rfl; have lx := hW.lt; clear hW; go_simp; try rfl)) ?_; go_frame
            refine sq_soft rfl (by kernel_rfl) (fun W hW => (by have x0 := hW.cell 0 _ rfl; have x1 := hW.cell 1 _ rfl; have x2 := hW.cell 2 _ rfl; have x3 := hW.cell 3 _ rfl; have x4 := hW.cell 4 _ rfl; have x5 := hW.cell 5 _ rfl; have lx := hW.lt; clear hW; go_simp; try rfl)) ?_; go_frame
            refine sq_op rfl (by kernel_rfl) ?_
            go_simp
            refine (root_any true off_.1 fs.1 rd.1 lt_ sh W6).mono ?_
            rintro e W7 ⟨rfl, b7⟩
            have S7 := hid (S6.out.quiet b7)
            have X7 := hid (X6.out.keep b7)
            refine ⟨X7.out, ?_⟩
            obtain ⟨r, hr⟩ : ∃ r, r = rootOf lt_ sh := ⟨_, rfl⟩
            have hrl : r.length ≤ 9223372036854775807 := by rw [hr, rootOf_len]; split <;> omega
            have HR := hid hr
            rw [← hr]
            clear b7 S6 X6 hr
            try go_frame
            refine sq_op rfl (by kernel_rfl) ?_
            go_simp
            refine (wput_any gw n L f l r hrl hf hl W7 S7.out.win).mono ?_
            rintro e W8 ⟨rfl, i8, g8⟩
            have X8 := hid (X7.out.kept g8 NW.out)
            have I8 := hid i8
            have RF8 := hid (S7.out.ref.kept g8 S7.out.lt)
            have B8 := hid (S7.out.below.grown g8 S7.out.below.size (fun k e => by cases e; exact S7.out.hi))
            refine ⟨X8.out, ?_⟩
            clear i8 X7
            try go_frame
            refine sq_op rfl (by kernel_rfl) ?_
            go_simp
            refine (root_any true off_.1 fs.1 rd.1 lt_ sh W8).mono ?_
            rintro e W9 ⟨rfl, b9⟩
            have X9 := hid (X8.out.keep b9)
            have I9 := hid (I8.out.keep b9)
            have RF9 := hid (RF8.out.keep b9)
            have B9 := hid (below_all B8.out b9)
            have hgr9 := hid (Nat.le_trans (Nat.le_of_lt S7.out.cont.2.2.2.2) (Nat.le_trans g8.size b9.size))
            refine ⟨X9.out, ?_⟩
            rw [← HR.out]
            clear b9 X8 I8 RF8 B8 g8
            try go_frame
            refine sched_done ?_
            go_wp2_with fail
            refine (rput_any gr gr n L S7.out.cont.1 S7.out.cont.2.1 HN1.out HN32.out f l r hrl hf hl W9 hgr9.out RF9.out).mono ?_
            rintro e W10 ⟨rfl, r10, b10⟩
            obtain ⟨L2, hL2⟩ : ∃ L2, L2 = (if putE L f l r = 0 then putL n L (f, l, r) else L) := ⟨_, rfl⟩
            have hi9 := I9.out
            rw [← hL2] at r10 hi9
            have S10 := hid (PS.mk (hi9.below b10 S7.out.lt) r10 (B9.out.trans (b10.mono (by have := S7.out.lt; have := S7.out.hi; omega))) S7.out.hi S7.out.lt)
            clear r10 b10 hi9 hL2 I9 RF9 B9 X9 S7
            obtain ⟨pe, hpe⟩ : ∃ pe : Nat, pe = putE L f l r := ⟨_, rfl⟩
            rw [← hpe]
            clear hpe
            go_wp2_with fail
            refine (wnext_v gw n L2 W10 S10.out.win).mono ?_
            rintro e V1 ⟨rfl, c1⟩
            have R1 := hid (S10.out.quiet c1)
            clear c1 S10
            go_wp2_with fail
            refine (rnext_v gr gr n L2 R1.out.cont.1 V1 R1.out.ref).mono ?_
            rintro e V2 ⟨rfl, c2⟩
            have R2 := hid (R1.out.quiet c2)
            clear c2 R1
            go_wp2_with fail
            obtain ⟨rv, ra, rr, -⟩ := R2.out.ref
            obtain ⟨RA, rc, rfl, -⟩ := rr.form
            have hS : V2.drew.cell? ⟨gr, 1, none⟩ = some (.slice RA (L2).length rc) ∧ gr < V2.drew.heap.size := ⟨ra.cell 1 _ rfl, ra.lt⟩
            have HSS := hid hS
            clear ra rr
            refine wp_region_sq (fun W' => W'.cell? ⟨gr, 1, none⟩ = some (.slice RA (L2).length rc) ∧ gr < W'.heap.size) [(true, 0), (true, 1), (true, 2), (true, 3), (true, 4), (true, 5), (true, 6), (true, 7), (true, 8), (true, 9), (true, 11), (true, 12), (true, 13), (true, 14), (true, 15), (false, 10), (true, 16), (true, 17), (true, 18), (true, 19), (true, 21), (false, 20), (false, 22), (true, 23)] 24 rfl (by kernel_rfl) (by kernel_rfl) (by kernel_rfl) (by decide) rfl (by kernel_rfl) hS ?_
            have R3 := hid (R2.out.quiet (Below.refl V2.heap.size V2).drew)
            clear hS R2
            generalize World.drew V2 = V3 at R3 HSS ⊢
            refine sq_soft rfl (by kernel_rfl) (fun W hW => (by obtain ⟨hW1, hW2⟩ := hW; go_simp; try rfl)) ?_; go_frame
            refine sq_soft rfl (by kernel_rfl) (fun W hW => (by obtain ⟨hW1, hW2⟩ := hW; go_simp; try rfl)) ?_; go_frame
            refine sq_soft rfl (by kernel_rfl) (fun W hW => (by obtain ⟨hW1, hW2⟩ := hW; go_simp; try rfl)) ?_; go_frame
            refine sq_soft rfl (by kernel_rfl) (fun W hW => (by obtain ⟨hW1, hW2⟩ := hW; go_simp; try rfl)) ?_; go_frame
            refine sq_soft rfl (by kernel_rfl) (fun W hW => (by obtain ⟨hW1, hW2⟩ := hW; go_simp; try rfl)) ?_; go_frame
            refine sq_soft rfl (by kernel_rfl) (fun W hW => (by obtain ⟨hW1, hW2⟩ := hW; go_simp; try rfl)) ?_; go_frame
            refine sq_soft rfl (by kernel_rfl) (fun W hW => (by obtain ⟨hW1, hW2⟩ := hW; go_simp; try rfl)) ?_; go_frame
            refine sq_soft rfl (by kernel_rfl) (fun W hW => (by obtain ⟨hW1, hW2⟩ := hW; go_simp; try rfl)) ?_; go_frame
            refine sq_soft rfl (by kernel_rfl) (fun W hW => (by obtain ⟨hW1, hW2⟩ := hW; go_simp; try rfl)) ?_; go_frame
            refine sq_soft rfl (by kernel_rfl) (fun W hW => (by obtain ⟨hW1, hW2⟩ := hW; go_simp; try rfl)) ?_; go_frame
            refine sq_soft rfl (by kernel_rfl) (fun W hW => (by obtain ⟨hW1, hW2⟩ := hW; go_simp; try rfl)) ?_; go_frame
            refine sq_soft rfl (by kernel_rfl) (fun W hW => (by obtain ⟨hW1, hW2⟩ := hW; go_simp; try rfl)) ?_; go_frame
            refine sq_soft rfl (by kernel_rfl) (fun W hW => (by obtain ⟨hW1, hW2⟩ := hW; go_simp; try rfl)) ?_; go_frame
            refine sq_soft rfl (by kernel_rfl) (fun W hW => (by obtain ⟨hW1, hW2⟩ := hW; go_simp; try rfl)) ?_; go_frame
            refine sq_soft rfl (by kernel_rfl) (fun W hW => (by obtain ⟨hW1, hW2⟩ := hW; go_simp; try rfl)) ?_; go_frame
            refine sq_op rfl (by kernel_rfl) ?_
            go_simp
            refine (wlen_any gw n L2 V3 R3.out.win).mono ?_
            rintro e V4 ⟨rfl, hV4⟩
            subst V4
            refine ⟨HSS.out, ?_⟩
            try go_frame
            refine sq_soft rfl (by kernel_rfl) (fun W hW => (by obtain ⟨hW1, hW2⟩ := hW; go_simp; try rfl)) ?_; go_frame
            refine sq_soft rfl (by kernel_rfl) (fun W hW => (by obtain ⟨hW1, hW2⟩ := hW; go_simp; try rfl)) ?_; go_frame
            refine sq_soft rfl (by kernel_rfl) (fun W hW => (by obtain ⟨hW1, hW2⟩ := hW; go_simp; try rfl)) ?_; go_frame
            refine sq_soft rfl (by kernel_rfl) (fun W hW => (by obtain ⟨hW1, hW2⟩ := hW; go_simp; try rfl)) ?_; go_frame
            refine sq_soft rfl (by kernel_rfl) (fun W hW => (by obtain ⟨hW1, hW2⟩ := hW; go_simp; try rfl)) ?_; go_frame
            refine sq_op rfl (by kernel_rfl) ?_
            go_simp
            refine (digest_any gw n L2 V3 R3.out.win).mono ?_
            rintro e V4 ⟨rfl, c4⟩
            have R4 := hid (R3.out.quiet c4)
            have HS4 : V4.cell? ⟨gr, 1, none⟩ = some (.slice RA (L2).length rc) ∧ gr < V4.heap.size := ⟨(c4.cell (p := ⟨gr, 1, none⟩) HSS.out.2).trans HSS.out.1, Nat.lt_of_lt_of_le HSS.out.2 c4.size⟩
            have HSS4 := hid HS4
            refine ⟨HS4, ?_⟩
            clear c4 HSS R3 HS4
            try go_frame
            refine sq_op rfl (by kernel_rfl) ?_
            go_simp
            refine (rdigest_any gr gr n L2 R4.out.cont.1 (Nat.le_trans R4.out.cont.2.1 HN32.out) V4 R4.out.ref).mono ?_
            rintro e V5 ⟨rfl, c5⟩
            have R5 := hid (R4.out.quiet c5)
            have HS5 : V5.cell? ⟨gr, 1, none⟩ = some (.slice RA (L2).length rc) ∧ gr < V5.heap.size := ⟨(c5.cell (p := ⟨gr, 1, none⟩) HSS4.out.2).trans HSS4.out.1, Nat.lt_of_lt_of_le HSS4.out.2 c5.size⟩
            refine ⟨HS5, ?_⟩
            clear c5 HSS4 R4 HS5
            try go_frame
            refine sq_soft rfl (by kernel_rfl) (fun W hW => (by obtain ⟨hW1, hW2⟩ := hW; go_simp; try rfl)) ?_; go_frame
            refine sched_done ?_
            go_wp2
            go_roundw
            case rel => exact ⟨k + 1, _, by omega, by omega, by go_num, R5.out⟩
            case measure => simp [intOf]; omega
        · obtain rfl : k = 60 := by omega
          have hlk' : (60 : Int) < (A.length : Int) := by omega
          go_wp2_with fail
          refine (works24_any wr).mono ?_
          rintro e w3 ⟨rfl, b3⟩
          have S3 := hid (HS.out.quiet b3)
          clear b3 HS
          go_wp2
          go_ret
          exact ⟨rfl, S3.out.below⟩
      · obtain rfl : k = A.length := by omega
        go_wp2_with fail
        refine (works24_any wr).mono ?_
        rintro e w3 ⟨rfl, b3⟩
        have S3 := hid (HS.out.quiet b3)
        clear b3 HS
        go_wp2
        go_ret
        exact ⟨rfl, S3.out.below⟩
end Go.Proofs.Ytcfohdkdppiekaa
