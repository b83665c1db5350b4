/- The law StreamKnown: the walk. -/
import Derived.Test.YtcfohdkdppiekaaWorks3
import Derived.Test.YtcfohdkdppiekaaStreamBlk
import Derived.Test.YtcfohdkdppiekaaSched
namespace Go.Proofs.Ytcfohdkdppiekaa
open Go.RowKit Go.Proofs Go
theorem sd_abc : sd [97, 98, 99] = abcSeed := by decide
/-- the stream of the call's own, and its copy -/
structure K3 (w W : World) (g c k j : Nat) : Prop where
  a : isS W g abcSeed k
  b : isS W c abcSeed j
  below : Below w.heap.size w W
  ne : g ≠ c
  hg : w.heap.size ≤ g
  hc : w.heap.size ≤ c
theorem K3.quiet {w W W' : World} {g c k j : Nat} (h : K3 w W g c k j) (hb : Below W.heap.size W W') : K3 w W' g c k j := ⟨h.a.keep hb, h.b.keep hb, below_all h.below hb, h.ne, h.hg, h.hc⟩
/-- one stream of the call's own -/
structure K2 (w W : World) (g k : Nat) : Prop where
  a : isS W g abcSeed k
  below : Below w.heap.size w W
  hg : w.heap.size ≤ g
theorem K2.quiet {w W W' : World} {g k : Nat} (h : K2 w W g k) (hb : Below W.heap.size W W') : K2 w W' g k := ⟨h.a.keep hb, below_all h.below hb, h.hg⟩
theorem K2.draw {w W W' : World} {g k k' : Nat} (h : K2 w W g k) (hs : isS W' g abcSeed k') (hg : W.grownBy W' (some g)) : K2 w W' g k' := ⟨hs, below_grown h.below hg h.below.size h.hg, h.hg⟩
theorem ext_drop (l : List UInt8) (a n : Nat) (h : l.length = n) : (⟨l.toArray⟩ : ByteArray).extract a n = ⟨(l.drop a).toArray⟩ := by
  subst h
  exact text_drop l a
set_option maxRecDepth 100000 in
set_option maxHeartbeats 4000000 in
theorem streamKnown_any (w : World) : Calls Try.prog 16 #[] w fun e w' => e = .returned (.bool true) ∧ Below w.heap.size w w' := by
  go_enter Try.func16, Try.ntmps16
  go_wp2_with fail
  refine (bytes_nil 1 w).mono ?_
  rintro e w1 ⟨rfl, hw1⟩
  subst w1
  go_wp2_with fail
  refine (sbelow_nil 3 w).mono ?_
  rintro e w2 ⟨rfl, hw2⟩
  subst w2
  go_wp2_with fail
  refine (snew_bad [] (by decide) w).mono ?_
  rintro e w3 ⟨rfl, hw3⟩
  subst w3
  go_wp2_with fail
  refine (seed_any [] (by decide) w).mono ?_
  rintro e w4 ⟨rfl, b4⟩
  have B4 := hid b4
  clear b4
  obtain ⟨z, hz⟩ : ∃ z, z = sd [] := ⟨_, rfl⟩
  have hzl : z.length = 32 := by rw [hz, sd_len]
  rw [← hz]
  clear hz
  go_wp2_with fail
  rw [show (⟨z.toArray⟩ : ByteArray) ++ ⟨#[120]⟩ = ⟨(z ++ [120]).toArray⟩ from str_app z [120]]
  refine (snew_bad (z ++ [120]) (by rw [List.length_append, hzl]; decide) w4).mono ?_
  rintro e w5 ⟨rfl, rfl⟩
  go_wp2_with fail
  refine (seed_any [97, 98, 99] (by decide) w5).mono ?_
  rintro e w6 ⟨rfl, b6⟩
  rw [sd_abc]
  have B6 := hid (below_all B4.out b6)
  clear b6 B4
  obtain ⟨s, hs⟩ : ∃ s, s = abcSeed := ⟨_, rfl⟩
  have hsl : s.length = 32 := by rw [hs]; decide
  rw [← hs]
  have HS := hid hs
  have HSL := hid hsl
  clear hs hsl
  go_wp2_with fail
  refine (snew_any s HSL.out w6).mono ?_
  rintro e w7 ⟨rfl, hs7, c7⟩
  obtain ⟨g, hg⟩ : ∃ g, g = w6.heap.size := ⟨_, rfl⟩
  have S7 : Hid (K2 w w7 g 0) := hid ⟨by rw [hg, ← HS.out]; exact hs7, below_all B6.out c7, by have := B6.out.size; omega⟩
  rw [← hg]
  clear hs7 c7 B6 hg
  go_wp2_with fail
  refine (bytes_any g s HSL.out 0 65536 (by omega) (by omega) w7 (by rw [HS.out]; exact S7.out.a)).mono ?_
  rintro e w8 ⟨rfl, hs8, c8⟩
  have S8 : Hid (K2 w w8 g 65536) := hid (S7.out.draw (by rw [← HS.out]; exact hs8) c8)
  clear hs8 c8 S7
  obtain ⟨X, hX⟩ : ∃ X, X = sbs s 0 65536 := ⟨_, rfl⟩
  have hXl : X.length = 65536 := by rw [hX, sbs_len]
  rw [← hX]
  have HX := hid hX
  clear hX
  go_wp2_with fail
  refine (sbelow_take g s HSL.out 65536 (by omega) 9223372036854775808 (by omega) (by omega) (by have := su_lt s 65536; unfold topOf; omega) w8 (by rw [HS.out]; exact S8.out.a)).mono ?_
  rintro e w9 ⟨rfl, hs9, c9⟩
  have S9 : Hid (K2 w w9 g 65544) := hid (S8.out.draw (by rw [← HS.out]; exact hs9) c9)
  clear hs9 c9 S8
  obtain ⟨u, hu⟩ : ∃ u, u = su s 65536 := ⟨_, rfl⟩
  rw [← hu]
  have HU := hid hu
  clear hu
  go_wp2_with fail
  obtain ⟨d, hd⟩ : ∃ d, d = su s 65544 := ⟨_, rfl⟩
  have hd1 : d < 18446744073709551615 := by
    have h1 := su_lt s 65544
    have h2 := su_abc
    rw [← HS.out] at h2
    omega
  refine (sbelow_take g s HSL.out 65544 (by omega) 18446744073709551615 (by omega) (by omega) (by rw [← hd]; unfold topOf; omega) w9 (by rw [HS.out]; exact S9.out.a)).mono ?_
  rintro e w10 ⟨rfl, hs10, c10⟩
  have S10 : Hid (K2 w w10 g 65552) := hid (S9.out.draw (by rw [← HS.out]; exact hs10) c10)
  rw [← hd, Nat.mod_eq_of_lt hd1]
  clear hs10 c10 S9 hd
  go_wp2_with fail
  refine (scopy_any g s 65552 w10 (by rw [HS.out]; exact S10.out.a)).mono ?_
  rintro e w11 ⟨rfl, hs11, c11⟩
  obtain ⟨c, hc⟩ : ∃ c, c = w10.heap.size := ⟨_, rfl⟩
  have hcg : g ≠ c := by have := S10.out.a.lt; omega
  have hcw : w.heap.size ≤ c := by have := S10.out.below.size; omega
  rw [← hc] at hs11
  rw [← hc]
  have S11 : Hid (K3 w w11 g c 65552 65552) := hid ⟨S10.out.a.keep c11, by rw [← HS.out]; exact hs11, below_all S10.out.below c11, hcg, S10.out.hg, hcw⟩
  clear hs11 c11 S10 hc hcg hcw
  go_wp2_with fail
  refine (seed_any [97, 98, 99] (by decide) w11).mono ?_
  rintro e w12 ⟨rfl, b12⟩
  rw [sd_abc, ← HS.out]
  have S12 := hid (S11.out.quiet b12)
  clear b12 S11
  go_wp2_with fail
  refine (num_nat 2048 (by omega) w12).mono ?_
  rintro e w13 ⟨rfl, b13⟩
  have S13 := hid (S12.out.quiet b13)
  clear b13 S12
  go_wp2_with fail
  refine (hash_any tStream [s, b8 2048] _ _ (strsAt.lit' w13 [s, b8 2048] (by simp [b8_len]; have := HSL.out; omega) (by simp) 9) (by decide) (by simp [fparts, b8_len]; have := HSL.out; omega) (by simp [b8_len]; have := HSL.out; omega)).mono ?_
  rintro e w14 ⟨rfl, b14⟩
  have S14 := hid ((S13.out.quiet ((Below.refl _ _).alloc (Nat.le_refl _) _)).quiet b14)
  clear b14 S13
  rw [show hsh tStream [s, b8 2048] = sblk s 2048 from rfl]
  obtain ⟨V, hV⟩ : ∃ V, V = sblk s 2048 := ⟨_, rfl⟩
  have hVl : V.length = 32 := by rw [hV, sblk_len]
  rw [← hV]
  have HV := hid hV
  clear hV
  go_wp2_with fail
  go_loopw [20, 21] (fun x i wr => ∃ k : Nat, k ≤ 8 ∧ i = .int .i64 k ∧ x = .int .u64 (numb (V.take k) : Int) ∧ wr = w14) (fun _ i _ => 8 - (intOf i).toNat)
  case atStart => exact ⟨0, by omega, rfl, rfl, rfl⟩
  case round =>
    obtain ⟨k, hk, rfl, rfl, rfl⟩ := hrel
    by_cases hlt : k < 8
    · have hlt' : (k : Int) < 8 := by omega
      obtain ⟨x, hx⟩ : ∃ x : UInt8, x = V.getD k 0 := ⟨_, rfl⟩
      have hk3 : k < V.length := by omega
      have hxv : (⟨V.toArray⟩ : ByteArray)[k]'(by exact hk3) = x := by
        rw [hx, List.getD_eq_getElem?_getD, List.getElem?_eq_getElem hk3]; rfl
      have htk : V.take (k + 1) = V.take k ++ [x] := by
        rw [List.take_add_one, hx, List.getD_eq_getElem?_getD, List.getElem?_eq_getElem hk3]; rfl
      have HTK := hid htk
      obtain ⟨n, hn⟩ : ∃ n, n = numb (V.take k) := ⟨_, rfl⟩
      have hn1 : n < 18446744073709551616 := by rw [hn]; exact numb_lt _
      rw [← hn]
      have HN := hid hn
      clear hx htk hn
      have hob := or_byte n x.toNat hn1 x.toNat_lt
      go_wp2
      have hw : IntKind.u64.wrap (x.toNat : Int) = x.toNat := by rw [IntKind.wrap_u64]; have := x.toNat_lt; omega
      refine ⟨⟨k + 1, by omega, by go_num, ?_, trivial⟩, by simp [intOf]; omega⟩
      rw [hw, hob, HTK.out, numb_snoc, ← HN.out]
    · obtain rfl : k = 8 := by omega
      have hnu : numb (V.take 8) = u := by
        rw [HU.out, HV.out, ← sbs_block, sbs_take _ _ _ _ (by omega)]; rfl
      rw [hnu]
      clear hnu hlt hk
      clear HU
      go_wp2_with fail
      refine wp_region_sched (fun _ => True) [(false, 0), (false, 1), (false, 2), (false, 3), (false, 4), (false, 5), (false, 6), (false, 7), (false, 8), (false, 9), (false, 10), (false, 11), (false, 12), (false, 13), (false, 14), (false, 15), (false, 16), (false, 17), (false, 18), (false, 19), (false, 20), (false, 21), (false, 22), (false, 23), (true, 24), (true, 25), (false, 26), (false, 27), (false, 28), (false, 29), (false, 30), (false, 31), (false, 32), (false, 33), (false, 34), (false, 35), (false, 36), (true, 37), (false, 38), (false, 39), (false, 40), (false, 41), (false, 42), (false, 43), (false, 44), (false, 45), (false, 46), (false, 47), (false, 48), (false, 49), (false, 50), (true, 51), (true, 53), (false, 52), (false, 54)] 55 rfl (by kernel_rfl) (by kernel_rfl) (by kernel_rfl) (by decide) rfl (by kernel_rfl) (fun o _ _ _ _ h => by cases o <;> exact h) trivial ?_
      have T14 := hid (S14.out.quiet ((Below.refl _ _).drew))
      clear S14
      refine sched_op rfl (by kernel_rfl) ?_
      go_simp
      refine sched_op rfl (by kernel_rfl) ?_
      go_simp
      refine (works3_any _).mono ?_
      rintro e w15 ⟨rfl, b15⟩
      have S15 := hid (T14.out.quiet b15)
      clear b15 T14
      repeat (refine sched_op rfl (by kernel_rfl) ?_; go_simp)
      have hx2 : (⟨X.toArray⟩ : ByteArray).extract 65504 65536 = ⟨(sblk s 2047).toArray⟩ := by
        rw [ext_drop _ _ _ hXl, HX.out, sbs_drop _ _ _ _ (by omega), ← sbs_block]
      have HX2 := hid hx2
      clear hx2 HX
      refine sched_soft rfl (by kernel_rfl) (v := .string ⟨X.toArray⟩) (fun W _ => (by go_simp)) ?_
      refine sched_soft rfl (by kernel_rfl) (v := .string ⟨(sblk s 2047).toArray⟩) (fun W _ => (by rw [← HX2.out]; go_simp)) ?_
      obtain ⟨R, hR⟩ : ∃ R, R = sblk s 2047 := ⟨_, rfl⟩
      rw [← hR]
      have HR := hid hR
      clear hR
      refine sched_op rfl (by kernel_rfl) ?_
      go_simp
      refine (seed_any [97, 98, 99] (by decide) _).mono ?_
      rintro e w16 ⟨rfl, b16⟩
      rw [sd_abc, ← HS.out]
      have S16 := hid (S15.out.quiet b16)
      clear b16 S15
      refine sched_op rfl (by kernel_rfl) ?_
      go_simp
      refine (num_nat 2047 (by omega) w16).mono ?_
      rintro e w17 ⟨rfl, b17⟩
      have S17 := hid (S16.out.quiet b17)
      clear b17 S16
      refine sched_op rfl (by kernel_rfl) ?_
      go_simp
      refine sched_op rfl (by kernel_rfl) ?_
      go_simp
      refine (hash_any tStream [s, b8 2047] _ _ (strsAt.lit' w17 [s, b8 2047] (by simp [b8_len]; have := HSL.out; omega) (by simp) 9) (by decide) (by simp [fparts, b8_len]; have := HSL.out; omega) (by simp [b8_len]; have := HSL.out; omega)).mono ?_
      rintro e w18 ⟨rfl, b18⟩
      have S18 := hid ((S17.out.quiet ((Below.refl _ _).alloc (Nat.le_refl _) _)).quiet b18)
      clear b18 S17
      rw [show hsh tStream [s, b8 2047] = sblk s 2047 from rfl, ← HR.out]
      repeat (refine sched_op rfl (by kernel_rfl) ?_; go_simp)
      have htm : (u : Int).tmod 9223372036854775808 = (u : Int) % 9223372036854775808 := Int.tmod_eq_emod_of_nonneg (Int.natCast_nonneg _)
      have hd2 : (d : Int) < 18446744073709551615 := by omega
      refine sched_soft rfl (by kernel_rfl) (v := .int .u64 ((u : Int) % 9223372036854775808)) (fun W _ => (by go_simp)) ?_
      repeat (refine sched_op rfl (by kernel_rfl) ?_; go_simp)
      refine sched_soft rfl (by kernel_rfl) (v := .pointer (some ⟨c, 0, none⟩)) (fun W _ => (by go_simp)) ?_
      refine sched_soft rfl (by kernel_rfl) (v := .pointer (some ⟨g, 0, none⟩)) (fun W _ => (by go_simp)) ?_
      refine sched_op rfl (by kernel_rfl) ?_
      go_simp
      refine (uint64_any c s HSL.out 65552 (by omega) w18 (by rw [HS.out]; exact S18.out.b)).mono ?_
      rintro e w19 ⟨rfl, hs19, c19⟩
      have S19 : Hid (K3 w w19 g c 65552 65560) := hid ⟨S18.out.a.other c19 S18.out.ne, by rw [← HS.out]; exact hs19, below_grown S18.out.below c19 S18.out.below.size S18.out.hc, S18.out.ne, S18.out.hg, S18.out.hc⟩
      clear hs19 c19 S18
      refine sched_op rfl (by kernel_rfl) ?_
      go_simp
      refine (uint64_any g s HSL.out 65552 (by omega) w19 (by rw [HS.out]; exact S19.out.a)).mono ?_
      rintro e w20 ⟨rfl, hs20, c20⟩
      have B20 := hid (below_grown S19.out.below c20 S19.out.below.size S19.out.hg)
      clear hs20 c20 S19
      refine sched_done ?_
      go_wp2_with fail
      refine (uint64_nil w20).mono ?_
      rintro e w21 ⟨rfl, b21⟩
      have B21 := hid (below_all B20.out b21)
      clear b21 B20
      go_wp2_with fail
      refine (place_nil w21).mono ?_
      rintro e w22 ⟨rfl, hw22⟩
      subst w22
      go_wp2_with fail
      refine (scopy_nil w21).mono ?_
      rintro e w23 ⟨rfl, hw23⟩
      subst w23
      go_wp2
      go_ret
      exact ⟨rfl, B21.out⟩
end Go.Proofs.Ytcfohdkdppiekaa
