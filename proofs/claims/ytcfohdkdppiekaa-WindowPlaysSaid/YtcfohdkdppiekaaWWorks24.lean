/- law24's works: contract. -/
import Derived.Test.YtcfohdkdppiekaaWRoot
import Derived.Test.YtcfohdkdppiekaaWWinDig
namespace Go.Proofs.Ytcfohdkdppiekaa
open Go Go.RowKit Go.Proofs
/-- a window of the call's own -/
structure WS (w : World) (g most : Nat) (L : List Iv) (W : World) : Prop where
  win : isW W g most L
  below : Below w.heap.size w W
  hi : w.heap.size ≤ g
theorem WS.quiet {w W W' : World} {g most : Nat} {L : List Iv} (h : WS w g most L W) (hb : Below W.heap.size W W') : WS w g most L W' := ⟨h.win.keep hb, below_all h.below hb, h.hi⟩
theorem WS.put {w W W' : World} {g most : Nat} {L L' : List Iv} (h : WS w g most L W) (hw : isW W' g most L') (hg : W.grownBy W' (some g)) : WS w g most L' W' :=
  ⟨hw, h.below.grown hg h.below.size (fun k e => by cases e; exact h.hi), h.hi⟩
theorem WS.other {w W W' : World} {g g2 most : Nat} {L : List Iv} (h : WS w g most L W) (hg : W.grownBy W' (some g2)) (hne : g ≠ g2) (h2 : w.heap.size ≤ g2) : WS w g most L W' := by
  refine ⟨?_, h.below.grown hg h.below.size (fun k e => by cases e; exact h2), h.hi⟩
  obtain ⟨cs, p, h1, h2, h3, h4, h5, h6⟩ := h.win
  exact ⟨cs, p, h1, h2, h3, h4, h5, h6.kept hg hne⟩
theorem WS.more {w W : World} {g most f l : Nat} {r : List UInt8} {L : List Iv} (h : WS w g most L W) (hr : r.length ≤ 9223372036854775807) (hf : f < 18446744073709551616) (hl : l < 18446744073709551616) :
    Calls Try.prog 54 #[.pointer (some ⟨g, 0, none⟩), .int .u64 (f : Int), .int .u64 (l : Int), .string ⟨r.toArray⟩] W fun e W' => e = .returned (.int .i64 (putE L f l r : Nat)) ∧ WS w g most (if putE L f l r = 0 then putL most L (f, l, r) else L) W' ∧ W.grownBy W' (some g) :=
  (wput_any g most L f l r hr hf hl W h.win).mono fun _ _ ⟨h1, h2, h3⟩ => ⟨h1, h.put h2 h3, h3⟩
theorem wnew_ws (n : Nat) (h1 : 1 ≤ n) (h2 : n ≤ 32) (w W : World) (hb : Below w.heap.size w W) :
    Calls Try.prog 49 #[.int .i64 (n : Int)] W fun e W' => e = .returned (.pointer (some ⟨W.heap.size, 0, none⟩)) ∧ WS w W.heap.size n [] W' ∧ Below W.heap.size W W' :=
  (wnew_any n h1 h2 W).mono fun _ _ ⟨e1, e2, e3⟩ => ⟨e1, ⟨e2, below_all hb e3, hb.size⟩, e3⟩
def ra : List UInt8 := rootOf 97 false
def rb : List UInt8 := rootOf 98 false
theorem wdig_ab (a b : List UInt8) : wdig [(5, 9, a), (10, 12, b)] = hsh tWindow [b8 2, b8 5, b8 9, a, b8 10, b8 12, b] := rfl
set_option maxRecDepth 100000 in
set_option maxHeartbeats 4000000 in
theorem works24_any (w : World) : Calls Try.prog 51 #[] w fun e w' => e = .returned (.bool true) ∧ Below w.heap.size w w' := by
  obtain ⟨a, ha⟩ : ∃ a, a = ra := ⟨_, rfl⟩
  obtain ⟨b, hb⟩ : ∃ b, b = rb := ⟨_, rfl⟩
  have hal : a.length = 32 := by rw [ha]; rfl
  have hbl : b.length = 32 := by rw [hb]; rfl
  have HA := hid ha
  have HB := hid hb
  have HAL := hid hal
  have HBL := hid hbl
  clear ha hb hal hbl
  go_enter Try.func51, Try.ntmps51
  go_wp2_with fail
  refine (wnew_ws 2 (by omega) (by omega) w w (Below.refl _ _)).mono ?_
  rintro e w1 ⟨rfl, s1, -⟩
  obtain ⟨g, hg⟩ : ∃ g, g = w.heap.size := ⟨_, rfl⟩
  rw [← hg] at s1
  rw [← hg]
  have S1 := hid s1
  clear s1 hg
  go_wp2_with fail
  refine (root_any false 0 0 0 97 false w1).mono ?_
  rintro e w2 ⟨rfl, b2⟩
  have S2 := hid (S1.out.quiet b2)
  clear b2 S1
  rw [show rootOf 97 false = a from HA.out.symm]
  go_wp2_with fail
  refine (root_any false 0 0 0 98 false w2).mono ?_
  rintro e w3 ⟨rfl, b3⟩
  have S3 := hid (S2.out.quiet b3)
  clear b3 S2
  rw [show rootOf 98 false = b from HB.out.symm]
  go_wp2_with fail
  have p4 := S3.out.more (f := 5) (l := 9) (r := a) (by have := HAL.out; omega) (by omega) (by omega)
  rw [show putE [] 5 9 a = 0 from (by simp [putE, ivOk, nxr, HAL.out]), if_pos rfl, show putL 2 [] (5, 9, a) = [(5, 9, a)] from rfl] at p4
  refine p4.mono ?_
  rintro e w4 ⟨rfl, s4, -⟩
  have S4 := hid s4
  clear s4 p4 S3
  go_wp2_with fail
  refine (errno_same 0 w4).mono ?_
  rintro e w5 ⟨rfl, hw5⟩
  subst w5
  go_wp2_with fail
  have p5 := S4.out.more (f := 10) (l := 12) (r := b) (by have := HBL.out; omega) (by omega) (by omega)
  rw [show putE [(5, 9, a)] 10 12 b = 0 from (by simp [putE, ivOk, nxr, HBL.out]), if_pos rfl, show putL 2 [(5, 9, a)] (10, 12, b) = [(5, 9, a), (10, 12, b)] from rfl] at p5
  refine p5.mono ?_
  rintro e w5 ⟨rfl, s5, -⟩
  have S5 := hid s5
  clear s5 p5 S4
  go_wp2_with fail
  refine (errno_same 0 w5).mono ?_
  rintro e w6 ⟨rfl, hw6⟩
  subst w6
  go_wp2_with fail
  have p6 := find_any g 2 [(5, 9, a), (10, 12, b)] 9 w5 S5.out.win
  rw [show finV [(5, 9, a), (10, 12, b)] 9 = .tuple #[.int .u64 5, .int .u64 9, .string ⟨a.toArray⟩, .int .i64 0] from rfl] at p6
  refine p6.mono ?_
  rintro e w6 ⟨rfl, b6⟩
  have S6 := hid (S5.out.quiet b6)
  clear b6 S5 p6
  go_wp2_with fail
  refine (wnext_some g 2 [(5, 9, a), (10, 12, b)] (10, 12, b) rfl w6 S6.out.win).mono ?_
  rintro e w7 ⟨rfl, b7⟩
  have S7 := hid (S6.out.quiet b7)
  clear b7 S6
  go_wp2_with fail
  refine (wlen_any g 2 [(5, 9, a), (10, 12, b)] w7 S7.out.win).mono ?_
  rintro e w8 ⟨rfl, hw8⟩
  subst w8
  go_wp2_with fail
  refine (digest_any g 2 [(5, 9, a), (10, 12, b)] w7 S7.out.win).mono ?_
  rintro e w8 ⟨rfl, b8'⟩
  have S8 := hid (S7.out.quiet b8')
  clear b8' S7
  rw [wdig_ab]
  go_wp2_with fail
  refine (num_nat 2 (by omega) w8).mono ?_
  rintro e w9 ⟨rfl, bb⟩
  have S9 := hid (S8.out.quiet bb)
  clear bb S8
  go_wp2_with fail
  refine (num_nat 5 (by omega) w9).mono ?_
  rintro e w10 ⟨rfl, bb⟩
  have S10 := hid (S9.out.quiet bb)
  clear bb S9
  go_wp2_with fail
  refine (num_nat 9 (by omega) w10).mono ?_
  rintro e w11 ⟨rfl, bb⟩
  have S11 := hid (S10.out.quiet bb)
  clear bb S10
  go_wp2_with fail
  refine (num_nat 10 (by omega) w11).mono ?_
  rintro e w12 ⟨rfl, bb⟩
  have S12 := hid (S11.out.quiet bb)
  clear bb S11
  go_wp2_with fail
  refine (num_nat 12 (by omega) w12).mono ?_
  rintro e w13 ⟨rfl, bb⟩
  have S13 := hid (S12.out.quiet bb)
  clear bb S12
  go_wp2_with fail
  refine (hash_any tWindow [b8 2, b8 5, b8 9, a, b8 10, b8 12, b] _ _ (strsAt.lit' w13 [b8 2, b8 5, b8 9, a, b8 10, b8 12, b] (by simp [b8_len, HAL.out, HBL.out]) (by simp) 9) (by decide) (by simp [fparts, b8_len, HAL.out, HBL.out]) (by simp [b8_len, HAL.out, HBL.out])).mono ?_
  rintro e w14 ⟨rfl, b14⟩
  have B14 := hid ((S13.out.below.alloc S13.out.below.size _).trans (b14.mono (by have := S13.out.below.size; simp; omega)))
  clear b14 S13
  go_wp2
  go_ret
  exact ⟨rfl, B14.out⟩
end Go.Proofs.Ytcfohdkdppiekaa
