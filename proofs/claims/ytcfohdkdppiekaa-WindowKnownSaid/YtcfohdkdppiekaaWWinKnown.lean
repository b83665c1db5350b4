/- The law WindowKnown: walk. -/
import Derived.Test.YtcfohdkdppiekaaWWorks24
import Derived.Test.YtcfohdkdppiekaaWWinNil
namespace Go.Proofs.Ytcfohdkdppiekaa
open Go Go.RowKit Go.Proofs
def kL2 (a : List UInt8) : List Iv := [(5, 9, a), (10, 12, a)]
def kL3 (a : List UInt8) : List Iv := [(10, 12, a), (13, 13, a)]
theorem WS.other {w W W' : World} {g g2 most : Nat} {L : List Iv} (h : WS w g most L W) (hg : W.grownBy W' (some g2)) (hne : g ≠ g2) (h2 : w.heap.size ≤ g2) : WS w g most L W' := by
  refine ⟨?_, h.below.grown hg h.below.size (fun k e => by cases e; exact h2), h.hi⟩
  obtain ⟨cs, p, h1, h2, h3, h4, h5, h6⟩ := h.win
  exact ⟨cs, p, h1, h2, h3, h4, h5, h6.kept hg hne⟩
/-- the table's rows -/
abbrev kT : TypeId := 75
def krow (f l : Nat) (r : List UInt8) (e : Nat) : List Value := [.int .u64 (f : Int), .int .u64 (l : Int), .string ⟨r.toArray⟩, .int .i64 (e : Int)]
def kf (k : Nat) : Nat := [15, 14, 14, 14, 14, 13, 18446744073709551607].getD k 0
def kl (k : Nat) : Nat := [20, 13, 78, 15, 15, 15, 18446744073709551615].getD k 0
def kr (a : List UInt8) (k : Nat) : List UInt8 := [a, a, a, a.tail, [], a, a].getD k []
def ke (k : Nat) : Nat := [17, 2, 2, 2, 2, 17, 2].getD k 0
def krows (a : List UInt8) : List Value :=
  [.int .u64 15, .int .u64 20, .string ⟨a.toArray⟩, .int .i64 17, .int .u64 14, .int .u64 13, .string ⟨a.toArray⟩, .int .i64 2, .int .u64 14, .int .u64 78, .string ⟨a.toArray⟩, .int .i64 2, .int .u64 14, .int .u64 15, .string ⟨(a.tail).toArray⟩, .int .i64 2,
   .int .u64 14, .int .u64 15, .string ⟨#[]⟩, .int .i64 2, .int .u64 13, .int .u64 15, .string ⟨a.toArray⟩, .int .i64 17, .int .u64 18446744073709551607, .int .u64 18446744073709551615, .string ⟨a.toArray⟩, .int .i64 2]
theorem krows_at (a : List UInt8) (k : Nat) (hk : k < 7) : (krows a)[k * 4]? = some (.int .u64 (kf k : Nat)) ∧ (krows a)[k * 4 + 1]? = some (.int .u64 (kl k : Nat)) ∧ (krows a)[k * 4 + 2]? = some (.string ⟨(kr a k).toArray⟩) ∧ (krows a)[k * 4 + 3]? = some (.int .i64 (ke k : Nat)) := by
  match k, hk with
  | 0, _ => exact ⟨rfl, rfl, rfl, rfl⟩
  | 1, _ => exact ⟨rfl, rfl, rfl, rfl⟩
  | 2, _ => exact ⟨rfl, rfl, rfl, rfl⟩
  | 3, _ => exact ⟨rfl, rfl, rfl, rfl⟩
  | 4, _ => exact ⟨rfl, rfl, rfl, rfl⟩
  | 5, _ => exact ⟨rfl, rfl, rfl, rfl⟩
  | 6, _ => exact ⟨rfl, rfl, rfl, rfl⟩
theorem kput (a : List UInt8) (ha : a.length = 32) (k : Nat) (hk : k < 7) : putE (kL3 a) (kf k) (kl k) (kr a k) = ke k ∧ ke k ≠ 0 ∧ (kr a k).length ≤ 9223372036854775807 ∧ kf k < 18446744073709551616 ∧ kl k < 18446744073709551616 := by
  match k, hk with
  | 0, _ => simp [putE, ivOk, nxr, kL3, kf, kl, kr, ke, ha]
  | 1, _ => simp [putE, ivOk, nxr, kL3, kf, kl, kr, ke, ha]
  | 2, _ => simp [putE, ivOk, nxr, kL3, kf, kl, kr, ke, ha]
  | 3, _ => simp [putE, ivOk, nxr, kL3, kf, kl, kr, ke, ha]
  | 4, _ => simp [putE, ivOk, nxr, kL3, kf, kl, kr, ke, ha]
  | 5, _ => simp [putE, ivOk, nxr, kL3, kf, kl, kr, ke, ha]
  | 6, _ => simp [putE, ivOk, nxr, kL3, kf, kl, kr, ke, ha]
set_option maxRecDepth 100000 in
set_option maxHeartbeats 4000000 in
theorem known24 (w : World) : Calls Try.prog 14 #[] w fun e w' => e = .returned (.bool true) ∧ Below w.heap.size w w' := by
  obtain ⟨a, ha⟩ : ∃ a, a = ra := ⟨_, rfl⟩
  have hal : a.length = 32 := by rw [ha]; rfl
  have HA := hid ha
  have HAL := hid hal
  clear ha hal
  go_enter Try.func14, Try.ntmps14
  go_wp2_with fail
  refine (wnew_ws 2 (by omega) (by omega) w w (Below.refl _ _)).mono ?_
  rintro e w1 ⟨rfl, s1, -⟩
  obtain ⟨g, hg⟩ : ∃ g, g = w.heap.size := ⟨_, rfl⟩
  rw [← hg] at s1
  rw [← hg]
  have S1 := hid s1
  clear s1 hg
  go_wp2_with fail
  refine (root_any false 0 0 0 97 false w1).mono ?_
  rintro e w2 ⟨rfl, b2⟩
  have S2 := hid (S1.out.quiet b2)
  clear b2 S1
  rw [show rootOf 97 false = a from HA.out.symm]
  go_wp2_with fail
  refine (wnew_bad 0 (by omega) w2).mono ?_
  rintro e w3 ⟨rfl, hw3⟩
  subst w3
  go_wp2_with fail
  refine (wnew_bad 33 (by omega) w2).mono ?_
  rintro e w3 ⟨rfl, hw3⟩
  subst w3
  go_wp2_with fail
  refine (wnew_any 32 (by omega) (by omega) w2).mono ?_
  rintro e w3 ⟨rfl, -, b3⟩
  have S3 := hid (S2.out.quiet b3)
  clear b3 S2
  go_wp2_with fail
  refine (wlen_any g 2 [] w3 S3.out.win).mono ?_
  rintro e w4 ⟨rfl, hw4⟩
  subst w4
  go_wp2_with fail
  refine (wnext_none g 2 w3 S3.out.win).mono ?_
  rintro e w4 ⟨rfl, hw4⟩
  subst w4
  go_wp2_with fail
  refine (find_any g 2 [] 0 w3 S3.out.win).mono ?_
  rintro e w4 ⟨rfl, b4⟩
  have S4 := hid (S3.out.quiet b4)
  clear b4 S3
  rw [show finV [] 0 = .tuple #[.int .u64 0, .int .u64 0, .string ByteArray.empty, .int .i64 19] from rfl]
  go_wp2_with fail
  have p4 := S4.out.more (f := 5) (l := 9) (r := a) (by have := HAL.out; omega) (by omega) (by omega)
  rw [show putE [] 5 9 a = 0 from (by simp [putE, ivOk, nxr, HAL.out]), if_pos rfl, show putL 2 [] (5, 9, a) = [(5, 9, a)] from rfl] at p4
  refine p4.mono ?_
  rintro e w5 ⟨rfl, s5, -⟩
  have S5 := hid s5
  clear s5 p4 S4
  go_wp2_with fail
  have p5 := S5.out.more (f := 10) (l := 12) (r := a) (by have := HAL.out; omega) (by omega) (by omega)
  rw [show putE [(5, 9, a)] 10 12 a = 0 from (by simp [putE, ivOk, nxr, HAL.out]), if_pos rfl, show putL 2 [(5, 9, a)] (10, 12, a) = kL2 a from rfl] at p5
  refine p5.mono ?_
  rintro e w6 ⟨rfl, s6, -⟩
  have S6 := hid s6
  clear s6 p5 S5
  go_wp2_with fail
  have p6 := S6.out.more (f := 13) (l := 13) (r := a) (by have := HAL.out; omega) (by omega) (by omega)
  rw [show putE (kL2 a) 13 13 a = 0 from (by simp [putE, ivOk, nxr, HAL.out, kL2]), if_pos rfl, show putL 2 (kL2 a) (13, 13, a) = kL3 a from rfl] at p6
  refine p6.mono ?_
  rintro e w7 ⟨rfl, s7, -⟩
  have S7 := hid s7
  clear s7 p6 S6
  go_wp2_with fail
  refine (find_any g 2 (kL3 a) 9 w7 S7.out.win).mono ?_
  rintro e w8 ⟨rfl, b8'⟩
  have S8 := hid (S7.out.quiet b8')
  clear b8' S7
  rw [show finV (kL3 a) 9 = .tuple #[.int .u64 0, .int .u64 0, .string ByteArray.empty, .int .i64 16] from rfl]
  go_wp2_with fail
  refine (find_any g 2 (kL3 a) 13 w8 S8.out.win).mono ?_
  rintro e w9 ⟨rfl, b9⟩
  have S9 := hid (S8.out.quiet b9)
  clear b9 S8
  rw [show finV (kL3 a) 13 = .tuple #[.int .u64 13, .int .u64 13, .string ⟨a.toArray⟩, .int .i64 0] from rfl]
  go_wp2_with fail
  refine (find_any g 2 (kL3 a) 14 w9 S9.out.win).mono ?_
  rintro e w10 ⟨rfl, b10⟩
  have S10 := hid (S9.out.quiet b10)
  clear b10 S9
  rw [show finV (kL3 a) 14 = .tuple #[.int .u64 0, .int .u64 0, .string ByteArray.empty, .int .i64 19] from rfl]
  have h31 : ¬ (a.length : Int) < 1 := by have := HAL.out; omega
  have hx : (⟨a.toArray⟩ : ByteArray).extract 1 a.length = ⟨a.tail.toArray⟩ := by rw [text_drop, List.drop_one]
  go_wp2_with fail
  clear h31 hx
  obtain ⟨tb, htb⟩ : ∃ tb, tb = w10.heap.size := ⟨_, rfl⟩
  have T11 : arr (w10.alloc (.cells (krows a).toArray kT)) tb kT (krows a) := by rw [htb]; exact arr.new w10 _ _
  have B11 : Below w10.heap.size w10 (w10.alloc (.cells (krows a).toArray kT)) := (Below.refl _ _).alloc (Nat.le_refl _) _
  rw [← htb]
  unfold krows at T11 B11
  generalize (w10.alloc (.cells #[.int .u64 15, .int .u64 20, .string ⟨a.toArray⟩, .int .i64 17, .int .u64 14, .int .u64 13, .string ⟨a.toArray⟩, .int .i64 2, .int .u64 14, .int .u64 78, .string ⟨a.toArray⟩, .int .i64 2, .int .u64 14, .int .u64 15, .string ⟨a.tail.toArray⟩, .int .i64 2,
   .int .u64 14, .int .u64 15, .string ⟨#[]⟩, .int .i64 2, .int .u64 13, .int .u64 15, .string ⟨a.toArray⟩, .int .i64 17, .int .u64 18446744073709551607, .int .u64 18446744073709551615, .string ⟨a.toArray⟩, .int .i64 2] kT)) = w11 at T11 B11 ⊢
  have TT : Hid (arr w11 tb kT (krows a)) := T11
  have S11 := hid (S10.out.quiet B11)
  have HTB := hid (show w.heap.size ≤ tb ∧ tb ≠ g by have h1 := S10.out.below.size; have h2 := S10.out.win.lt; omega)
  clear T11 B11 S10 htb
  go_loopw [148] (fun i wr => ∃ k : Nat, k ≤ 7 ∧ i = .int .i64 k ∧ WS w g 2 (kL3 a) wr ∧ arr wr tb kT (krows a)) (fun i _ => 7 - (intOf i).toNat)
  case atStart => exact ⟨0, by omega, rfl, S11.out, TT.out⟩
  case round =>
    obtain ⟨k, hk, rfl, hs, ht⟩ := hrel
    by_cases hlk : k < 7
    · have hlk' : (k : Int) < 7 := by omega
      obtain ⟨r0, r1, r2, r3⟩ := krows_at a k hlk
      have c0 := ht.cell _ _ r0
      have c1 := ht.cell _ _ r1
      have c2 := ht.cell _ _ r2
      have c3 := ht.cell _ _ r3
      have lt := ht.lt
      have HS := hid hs
      have HT := hid ht
      clear hs ht r0 r1 r2 r3
      go_wp2_with fail
      obtain ⟨bx, hbx⟩ : ∃ bx, bx = wr.heap.size := ⟨_, rfl⟩
      have X3 : arr (wr.alloc (.cells (krow (kf k) (kl k) (kr a k) (ke k)).toArray kT)) bx kT (krow (kf k) (kl k) (kr a k) (ke k)) := by rw [hbx]; exact arr.new wr _ _
      have B3 : Below wr.heap.size wr (wr.alloc (.cells (krow (kf k) (kl k) (kr a k) (ke k)).toArray kT)) := (Below.refl _ _).alloc (Nat.le_refl _) _
      rw [← hbx]
      unfold krow at X3 B3
      generalize (wr.alloc (.cells [.int .u64 (kf k : Int), .int .u64 (kl k : Int), .string ⟨(kr a k).toArray⟩, .int .i64 (ke k : Int)].toArray kT)) = W3 at X3 B3 ⊢
      have S3 := hid (HS.out.quiet B3)
      have T3 := hid (HT.out.keep B3)
      have NE : bx ≠ g := by have := HS.out.win.lt; omega
      have HX3 := hid X3
      have HNE := hid NE
      clear B3 HS HT NE hbx c0 c1 c2 c3 lt
      refine wp_region_sq (fun W' => arr W' bx kT [.int .u64 (kf k : Int), .int .u64 (kl k : Int), .string ⟨(kr a k).toArray⟩, .int .i64 (ke k : Int)]) [(true, 0), (true, 1), (true, 2), (true, 3), (true, 4), (true, 5), (true, 6), (true, 8), (true, 9), (false, 7), (true, 10), (true, 11), (true, 12), (false, 13), (true, 14)] 15 rfl (by kernel_rfl) (by kernel_rfl) (by kernel_rfl) (by decide) rfl (by kernel_rfl) X3.drew ?_
      have S4 := hid (S3.out.quiet (Below.refl W3.heap.size W3).drew)
      have T4 := hid (T3.out.drew)
      have X4 := hid (HX3.out.drew)
      generalize World.drew W3 = W4 at S4 T4 X4 ⊢
      clear S3 T3 HX3 X3
      refine sq_soft rfl (by kernel_rfl) (fun W hW => (by have x0 := hW.cell 0 _ rfl; have x1 := hW.cell 1 _ rfl; have x2 := hW.cell 2 _ rfl; have x3 := hW.cell 3 _ rfl; have lx := hW.lt; clear hW; go_simp; try rfl)) ?_; go_frame
      refine sq_soft rfl (by kernel_rfl) (fun W hW => (by have x0 := hW.cell 0 _ rfl; have x1 := hW.cell 1 _ rfl; have x2 := hW.cell 2 _ rfl; have x3 := hW.cell 3 _ rfl; have lx := hW.lt; clear hW; go_simp; try rfl)) ?_; go_frame
      refine sq_soft rfl (by kernel_rfl) (fun W hW => (by have x0 := hW.cell 0 _ rfl; have x1 := hW.cell 1 _ rfl; have x2 := hW.cell 2 _ rfl; have x3 := hW.cell 3 _ rfl; have lx := hW.lt; clear hW; go_simp; try rfl)) ?_; go_frame
      refine sq_soft rfl (by kernel_rfl) (fun W hW => (by have x0 := hW.cell 0 _ rfl; have x1 := hW.cell 1 _ rfl; have x2 := hW.cell 2 _ rfl; have x3 := hW.cell 3 _ rfl; have lx := hW.lt; clear hW; go_simp; try rfl)) ?_; go_frame
      refine sq_soft rfl (by kernel_rfl) (fun W hW => (by have x0 := hW.cell 0 _ rfl; have x1 := hW.cell 1 _ rfl; have x2 := hW.cell 2 _ rfl; have x3 := hW.cell 3 _ rfl; have lx := hW.lt; clear hW; go_simp; try rfl)) ?_; go_frame
      refine sq_soft rfl (by kernel_rfl) (fun W hW => (by have x0 := hW.cell 0 _ rfl; have x1 := hW.cell 1 _ rfl; have x2 := hW.cell 2 _ rfl; have x3 := hW.cell 3 _ rfl; have lx := hW.lt; clear hW; go_simp; try rfl)) ?_; go_frame
      refine sq_soft rfl (by kernel_rfl) (fun W hW => (by have x0 := hW.cell 0 _ rfl; have x1 := hW.cell 1 _ rfl; have x2 := hW.cell 2 _ rfl; have x3 := hW.cell 3 _ rfl; have lx := hW.lt; clear hW; go_simp; try rfl)) ?_; go_frame
      refine sq_soft rfl (by kernel_rfl) (fun W hW => (by have x0 := hW.cell 0 _ rfl; have x1 := hW.cell 1 _ rfl; have x2 := hW.cell 2 _ rfl; have x3 := hW.cell 3 _ rfl; have lx := hW.lt; clear hW; go_simp; try rfl)) ?_; go_frame
      refine sq_soft rfl (by kernel_rfl) (fun W hW => (by have x0 := hW.cell 0 _ rfl; have x1 := hW.cell 1 _ rfl; have x2 := hW.cell 2 _ rfl; have x3 := hW.cell 3 _ rfl; have lx := hW.lt; clear hW; go_simp; try rfl)) ?_; go_frame
      refine sq_op rfl (by kernel_rfl) ?_
      go_simp
      obtain ⟨e0, e1, e2, e3, e4⟩ := kput a HAL.out k hlk
      have p5 := S4.out.more e2 e3 e4
      rw [e0, if_neg e1] at p5
      have P5 := hid p5
      have E1 := hid e1
      clear p5 e0 e1 e2 e3 e4
      refine P5.out.mono ?_
      rintro e W5 ⟨rfl, s5, g5⟩
      have X5 := X4.out.kept g5 HNE.out
      have T5 := hid (T4.out.kept g5 HTB.out.2)
      have S5 := hid s5
      refine ⟨X5, ?_⟩
      have HX5 := hid X5
      clear s5 g5 X4 T4 S4 P5 X5
      try go_frame
      refine sq_soft rfl (by kernel_rfl) (fun W hW => (by have x0 := hW.cell 0 _ rfl; have x1 := hW.cell 1 _ rfl; have x2 := hW.cell 2 _ rfl; have x3 := hW.cell 3 _ rfl; have lx := hW.lt; clear hW; go_simp; try rfl)) ?_; go_frame
      refine sq_soft rfl (by kernel_rfl) (fun W hW => (by have x0 := hW.cell 0 _ rfl; have x1 := hW.cell 1 _ rfl; have x2 := hW.cell 2 _ rfl; have x3 := hW.cell 3 _ rfl; have lx := hW.lt; clear hW; go_simp; try rfl)) ?_; go_frame
      refine sq_soft rfl (by kernel_rfl) (fun W hW => (by have x0 := hW.cell 0 _ rfl; have x1 := hW.cell 1 _ rfl; have x2 := hW.cell 2 _ rfl; have x3 := hW.cell 3 _ rfl; have lx := hW.lt; clear hW; go_simp; try rfl)) ?_; go_frame
      refine sq_op rfl (by kernel_rfl) ?_
      go_simp
      refine (wlen_any g 2 (kL3 a) W5 S5.out.win).mono ?_
      rintro e W6 ⟨rfl, hW6⟩
      subst W6
      refine ⟨HX5.out, ?_⟩
      try go_frame
      refine sq_soft rfl (by kernel_rfl) (fun W hW => (by have x0 := hW.cell 0 _ rfl; have x1 := hW.cell 1 _ rfl; have x2 := hW.cell 2 _ rfl; have x3 := hW.cell 3 _ rfl; have lx := hW.lt; clear hW; go_simp; try rfl)) ?_; go_frame
      refine sched_done ?_
      go_wp2
      go_roundw
      case rel => exact ⟨k + 1, by omega, by go_num, S5.out, T5.out⟩
      case measure => simp [intOf]; omega
    · obtain rfl : k = 7 := by omega
      have HS := hid hs
      clear hs ht
      go_wp2_with fail
      refine (wnew_ws 1 (by omega) (by omega) w wr HS.out.below).mono ?_
      rintro e v1 ⟨rfl, s1, b1⟩
      obtain ⟨g2, hg2⟩ : ∃ g2, g2 = wr.heap.size := ⟨_, rfl⟩
      rw [← hg2] at s1
      rw [← hg2]
      have S1 := hid s1
      have R1 := hid (HS.out.quiet b1)
      have NE := hid (show g ≠ g2 by have := HS.out.win.lt; omega)
      clear s1 b1 hg2 HS TT S11
      go_wp2_with fail
      have p1 := S1.out.more (f := 18446744073709551607) (l := 18446744073709551614) (r := a) (by have := HAL.out; omega) (by omega) (by omega)
      rw [show putE [] 18446744073709551607 18446744073709551614 a = 0 from (by simp [putE, ivOk, nxr, HAL.out]), if_pos rfl] at p1
      have P1 := hid p1
      clear p1
      refine P1.out.mono ?_
      rintro e v2 ⟨rfl, s2, g2'⟩
      have R2 := hid (R1.out.other g2' NE.out s2.hi)
      have S2 := hid s2
      clear s2 g2' R1 S1 P1
      go_wp2_with fail
      have p2 := S2.out.more (f := 18446744073709551615) (l := 18446744073709551615) (r := a) (by have := HAL.out; omega) (by omega) (by omega)
      rw [show putE (putL 1 [] (18446744073709551607, 18446744073709551614, a)) 18446744073709551615 18446744073709551615 a = 2 from (by simp [putE, ivOk])] at p2
      have P2 := hid p2
      clear p2
      refine P2.out.mono ?_
      rintro e v3 ⟨rfl, s3, g3⟩
      have R3 := hid (R2.out.other g3 NE.out s3.hi)
      clear s3 g3 R2 S2 P2
      go_wp2_with fail
      refine (wnext_nil v3).mono ?_
      rintro e v4 ⟨rfl, hv4⟩
      subst v4
      go_wp2_with fail
      refine (find_nil 1 v3).mono ?_
      rintro e v4 ⟨rfl, b4⟩
      have R4 := hid (R3.out.quiet b4)
      clear b4 R3
      go_wp2_with fail
      have p4 := R4.out.more (f := 14) (l := 77) (r := a) (by have := HAL.out; omega) (by omega) (by omega)
      rw [show putE (kL3 a) 14 77 a = 0 from (by simp [putE, ivOk, nxr, HAL.out, kL3]), if_pos rfl] at p4
      have P4 := hid p4
      clear p4
      refine P4.out.mono ?_
      rintro e v5 ⟨rfl, s5, -⟩
      have R5 := hid s5
      clear s5 R4 P4
      go_wp2_with fail
      refine (wput_nil 1 1 a v5).mono ?_
      rintro e v6 ⟨rfl, hv6⟩
      subst v6
      go_wp2_with fail
      refine (wlen_nil v5).mono ?_
      rintro e v6 ⟨rfl, hv6⟩
      subst v6
      go_wp2_with fail
      refine (digest_nil v5).mono ?_
      rintro e v6 ⟨rfl, b6⟩
      have R6 := hid (R5.out.quiet b6)
      clear b6 R5
      go_wp2_with fail
      refine (works24_any v6).mono ?_
      rintro e v7 ⟨rfl, b7⟩
      have R7 := hid (R6.out.quiet b7)
      clear b7 R6
      go_wp2
      go_ret
      exact ⟨rfl, R7.out.below⟩
end Go.Proofs.Ytcfohdkdppiekaa
