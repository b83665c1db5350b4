/- The law StreamPieces: the walk. -/
import Derived.Test.YtcfohdkdppiekaaWorks3
import Derived.Test.YtcfohdkdppiekaaBytesAt
namespace Go.Proofs.Ytcfohdkdppiekaa
open Go.RowKit Go.Proofs Go
/-- two streams of the call's own -/
structure P3 (w W : World) (s : List UInt8) (g q m : Nat) (v : Value) (l : List UInt8) : Prop where
  a : isS W g s m
  b : isS W q s 0
  v : bytesAt W w.heap.size v l
  below : Below w.heap.size w W
  ne : g ≠ q
  hg : w.heap.size ≤ g
  hq : w.heap.size ≤ q
theorem P3.quiet {w W W' : World} {s : List UInt8} {g q m : Nat} {v : Value} {l : List UInt8} (h : P3 w W s g q m v l) (hb : Below W.heap.size W W') : P3 w W' s g q m v l :=
  ⟨h.a.keep hb, h.b.keep hb, h.v.keep (hb.mono h.below.size), below_all h.below hb, h.ne, h.hg, h.hq⟩
theorem P3.draw {w W W' : World} {s : List UInt8} {g q m m' : Nat} {v : Value} {l : List UInt8} (h : P3 w W s g q m v l) (hs : isS W' g s m') (hg : W.grownBy W' (some g)) : P3 w W' s g q m' v l :=
  ⟨hs, h.b.other hg h.ne.symm, h.v.keep ((Below.refl _ _).grown hg h.below.size (fun k hk => by cases hk; exact h.hg)), below_grown h.below hg h.below.size h.hg, h.ne, h.hg, h.hq⟩
theorem P3.other {w W W' : World} {s : List UInt8} {g q m c : Nat} {v : Value} {l : List UInt8} (h : P3 w W s g q m v l) (hg : W.grownBy W' (some c)) (h1 : g ≠ c) (h2 : q ≠ c) (hc : w.heap.size ≤ c) : P3 w W' s g q m v l :=
  ⟨h.a.other hg h1, h.b.other hg h2, h.v.keep ((Below.refl _ _).grown hg h.below.size (fun k hk => by cases hk; exact hc)), below_grown h.below hg h.below.size hc, h.ne, h.hg, h.hq⟩
set_option maxRecDepth 100000 in
set_option maxHeartbeats 4000000 in
theorem pieces_any (t : List UInt8) (ht : t.length ≤ 9223372036854775807) (l : List UInt8) (v : Value) (w : World) (hv : bytesAt w w.heap.size v l) :
    Calls Try.prog 15 #[.string ⟨t.toArray⟩, v] w fun e w' => e = .returned (.bool true) ∧ Below w.heap.size w w' := by
  have HT := hid ht
  have HV := hid hv
  obtain ⟨A, c, rfl, hlc, hc, -⟩ := hv
  clear ht
  go_enter Try.func15, Try.ntmps15
  go_wp2_with fail
  refine (works3_any w).mono ?_
  rintro e w1 ⟨rfl, b1⟩
  have B1 := hid b1
  clear b1
  go_wp2_with fail
  refine (seed_any t HT.out w1).mono ?_
  rintro e w2 ⟨rfl, c2⟩
  have B2 := hid (below_all B1.out c2)
  clear c2 B1
  obtain ⟨s, hs⟩ : ∃ s, s = sd t := ⟨_, rfl⟩
  have hsl : s.length = 32 := by rw [hs, sd_len]
  rw [← hs]
  have HS := hid hsl
  have HSD := hid hs
  clear hsl hs
  go_wp2_with fail
  refine (snew_any s HS.out w2).mono ?_
  rintro e w3 ⟨rfl, hs3, c3⟩
  have B3 := hid (below_all B2.out c3)
  have S3 := hid hs3
  obtain ⟨g, hg⟩ : ∃ g, g = w2.heap.size := ⟨_, rfl⟩
  have hgw : w.heap.size ≤ g := by have := B2.out.size; omega
  rw [← hg] at S3
  rw [← hg]
  clear hs3 hg c3 B2
  go_wp2_with fail
  refine (seed_any t HT.out w3).mono ?_
  rintro e w4 ⟨rfl, c4⟩
  have B4 := hid (below_all B3.out c4)
  have S4 := hid (S3.out.keep c4)
  clear c4 B3 S3
  rw [← HSD.out]
  go_wp2_with fail
  refine (snew_any s HS.out w4).mono ?_
  rintro e w5 ⟨rfl, hs5, c5⟩
  have B5 := hid (below_all B4.out c5)
  have S5 := hid (S4.out.keep c5)
  obtain ⟨q, hq⟩ : ∃ q, q = w4.heap.size := ⟨_, rfl⟩
  have hqw : w.heap.size ≤ q := by have := B4.out.size; omega
  have hgq : g ≠ q := by have := S4.out.lt; omega
  rw [← hq] at hs5
  rw [← hq]
  have P5 : Hid (P3 w w5 s g q 0 (.slice A l.length c) l) := hid ⟨S5.out, hs5, HV.out.keep B5.out, B5.out, hgq, hgw, hqw⟩
  clear hs5 hq c5 B4 S4 S5 B5 hqw hgw hgq HV
  go_wp2_with fail
  go_loopw [9, 10] (fun u i wr => ∃ k m : Nat, k ≤ l.length ∧ k ≤ 40 ∧ m ≤ 200 * k ∧ i = .int .i64 k ∧ u = .string ⟨(sbs s 0 m).toArray⟩ ∧ P3 w wr s g q m (.slice A l.length c) l) (fun _ i _ => l.length - (intOf i).toNat)
  case atStart => exact ⟨0, 0, by omega, by omega, by omega, rfl, rfl, P5.out⟩
  case round =>
    clear P5
    obtain ⟨k, m, hk, hk4, hm, rfl, rfl, hp⟩ := hrel
    have HP := hid hp
    obtain ⟨Y, hY⟩ : ∃ Y, Y = sbs s 0 m := ⟨_, rfl⟩
    have hYl : Y.length = m := by rw [hY, sbs_len]
    rw [← hY]
    have HY := hid hY
    clear hp hY
    by_cases hlt : k < l.length ∧ k < 40
    · have h40 := hlt.2; replace hlt := hlt.1
      obtain ⟨_, _, hveq, -, -, hx⟩ := HP.out.v
      obtain ⟨rfl, -, rfl⟩ := Value.slice.inj hveq
      obtain ⟨a, rfl, hab, hcell⟩ := hx k hlt
      clear hx hveq
      obtain ⟨z, hz⟩ : ∃ z, z = l.getD k 0 := ⟨_, rfl⟩
      rw [← hz] at hcell
      have hz1 : z.toNat < 256 := z.toNat_lt
      have hak : (a.add k).block < wr.heap.size := by rw [block_add]; have := HP.out.below.size; omega
      have hlt' : (k : Int) < (l.length : Int) := by omega
      have h40' : (k : Int) < 40 := by omega
      obtain ⟨n, hn⟩ : ∃ n : Nat, n = z.toNat % 201 := ⟨_, rfl⟩
      have hn1 : n ≤ 200 := by omega
      have hn2 : (z.toNat : Int) % 201 = (n : Int) := by rw [hn]; exact (Int.natCast_emod _ _).symm
      have HN2 := hid hn2
      clear hz hn hn2
      go_wp2_with fail
      rw [HN2.out]
      refine (scopy_any g s m wr HP.out.a).mono ?_
      rintro e w6 ⟨rfl, hs6, c6⟩
      have P6 := hid (HP.out.quiet c6)
      obtain ⟨d, hd⟩ : ∃ d, d = wr.heap.size := ⟨_, rfl⟩
      have hdg : g ≠ d := by have := HP.out.a.lt; omega
      have hdq : q ≠ d := by have := HP.out.b.lt; omega
      have hdw : w.heap.size ≤ d := by have := HP.out.below.size; omega
      rw [← hd] at hs6
      rw [← hd]
      have S6 := hid hs6
      clear hs6 c6 hd HP
      go_wp2_with fail
      refine (bytes_any g s HS.out m n (by omega) (by omega) w6 P6.out.a).mono ?_
      rintro e w7 ⟨rfl, hs7, c7⟩
      have P7 := hid (P6.out.draw hs7 c7)
      have S7 := hid (S6.out.other c7 hdg.symm)
      clear hs7 c7 P6 S6
      go_wp2_with fail
      refine (bytes_any d s HS.out m n (by omega) (by omega) w7 S7.out).mono ?_
      rintro e w8 ⟨rfl, hs8, c8⟩
      have P8 := hid (P7.out.other c8 hdg hdq hdw)
      have S8 := hid hs8
      clear hs8 c8 P7 S7
      obtain ⟨X, hX⟩ : ∃ X, X = sbs s m n := ⟨_, rfl⟩
      have hXl : X.length = n := by rw [hX, sbs_len]
      rw [← hX]
      have HX := hid hX
      clear hX
      go_wp2_with fail
      refine (place_any d s (m + n) w8 S8.out).mono ?_
      rintro e w9 ⟨rfl, rfl⟩
      go_wp2_with fail
      refine (place_any g s (m + n) w9 P8.out.a).mono ?_
      rintro e w10 ⟨rfl, rfl⟩
      go_wp2
      go_roundw
      case rel =>
        refine ⟨k + 1, m + n, by omega, by omega, by omega, by go_num, ?_, P8.out⟩
        rw [HX.out, HY.out, sbs_add, Nat.zero_add, str_app]
      case measure => simp [intOf]; omega
    · have hex : (¬ (k : Int) < (l.length : Int)) ∨ ((k : Int) < (l.length : Int) ∧ ¬ (k : Int) < 40) := by omega
      rcases hex with hlt' | ⟨hlt', h40'⟩
      all_goals
        go_wp2_with fail
        refine (bytes_any q s HS.out 0 m (by omega) (by omega) wr HP.out.b).mono ?_
        rintro e w6 ⟨rfl, hs6, c6⟩
        have SA := hid (HP.out.a.other c6 HP.out.ne)
        have B6 := hid (below_grown HP.out.below c6 HP.out.below.size HP.out.hq)
        rw [← HY.out]
        clear hs6 c6 HP
        go_wp2_with fail
        go_loopw [19, 20] (fun u i wr => ∃ j : Nat, j ≤ 300 ∧ (j = 0 ∨ 32 * (j - 1) < m) ∧ i = .int .u64 j ∧ u = .string ⟨(sbs s 0 (32 * j)).toArray⟩ ∧ isS wr g s m ∧ Below w.heap.size w wr) (fun _ i _ => 300 - (intOf i).toNat)
        case atStart => exact ⟨0, by omega, by omega, rfl, rfl, SA.out, B6.out⟩
        case round =>
          clear SA B6
          obtain ⟨j, hj, hjm, rfl, rfl, hsa, hb⟩ := hrel
          have SA := hid hsa
          have HB := hid hb
          obtain ⟨Z, hZ⟩ : ∃ Z, Z = sbs s 0 (32 * j) := ⟨_, rfl⟩
          have hZl : Z.length = 32 * j := by rw [hZ, sbs_len]
          rw [← hZ]
          have HZ := hid hZ
          clear hsa hb hZ
          by_cases hlt2 : 32 * j < m
          · have h1 : (Z.length : Int) < (Y.length : Int) := by omega
            go_wp2_with fail
            refine (seed_any t HT.out _).mono ?_
            rintro e w7 ⟨rfl, c7⟩
            rw [← HSD.out]
            have SB := hid (SA.out.keep c7)
            have B7 := hid (below_all HB.out c7)
            clear c7 SA HB
            go_wp2_with fail
            refine (num_nat j (by omega) w7).mono ?_
            rintro e w8 ⟨rfl, c8⟩
            have SC := hid (SB.out.keep c8)
            have B8 := hid (below_all B7.out c8)
            clear c8 SB B7
            go_wp2_with fail
            refine (hash_any tStream [s, b8 j] _ _ (strsAt.lit' w8 [s, b8 j] (by simp [b8_len]; have := HS.out; omega) (by simp) 9) (by decide) (by simp [fparts, b8_len]; have := HS.out; omega) (by simp [b8_len]; have := HS.out; omega)).mono ?_
            rintro e w9 ⟨rfl, c9⟩
            have SE := hid ((SC.out.keep ((Below.refl _ _).alloc (Nat.le_refl _) _)).keep c9)
            have B9 := hid (below_all (below_all B8.out ((Below.refl _ _).alloc (Nat.le_refl _) _)) c9)
            clear c9 SC B8
            rw [show hsh tStream [s, b8 j] = sblk s j from rfl]
            obtain ⟨V, hV⟩ : ∃ V, V = sblk s j := ⟨_, rfl⟩
            have hVl : V.length = 32 := by rw [hV, sblk_len]
            rw [← hV]
            have HV := hid hV
            clear hV
            have hne : ((⟨Z.toArray⟩ : ByteArray) ++ ⟨V.toArray⟩).toList.isEmpty = false := by
              rw [str_app]
              have : ¬ (Z ++ V) = [] := by intro h0; have h2 := congrArg List.length h0; rw [List.length_append, List.length_nil] at h2; omega
              simpa using this
            go_wp2
            refine ⟨⟨j + 1, by omega, by omega, by go_num, ?_, SE.out, B9.out⟩, ?_⟩
            · rw [HZ.out, HV.out, Nat.mul_succ, sbs_add, Nat.zero_add, sbs_block, str_app]
            · simp [intOf]; omega
          · have h1 : ¬ (Z.length : Int) < (Y.length : Int) := by omega
            have hext : (⟨Z.toArray⟩ : ByteArray).extract 0 Y.length = ⟨Y.toArray⟩ := by
              rw [take_ext, HZ.out, hYl, sbs_take _ _ _ _ (by omega), ← HY.out]
            have hexT : ((⟨Z.toArray⟩ : ByteArray).extract 0 m).toList = Y := by rw [← hYl, hext]; simp
            have h3 : (Y.length : Int) ≤ (Z.length : Int) := by omega
            have h4 : Y.length ≤ 8000 := by omega
            go_wp2_with fail
            refine (place_any g s m wr SA.out).mono ?_
            rintro e w9 ⟨rfl, rfl⟩
            go_wp2
            go_ret
            exact ⟨rfl, HB.out⟩
end Go.Proofs.Ytcfohdkdppiekaa
