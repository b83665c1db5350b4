/- WotsSigns: the walk. -/
import Derived.Test.YtcfohdkdppiekaaWWorks13
import Derived.Test.YtcfohdkdppiekaaWotKit
namespace Go.Proofs.Ytcfohdkdppiekaa
open Go Go.RowKit Go.Proofs
attribute [local go_sem] Oper.semAt_some
def sgo (seed : List UInt8) (index : Nat) (d : List UInt8) : List (List UInt8) := if d.length = 32 then sgn seed index d else []
def sgc (d : List UInt8) : Nat := if d.length = 32 then 0 else 2
theorem sign2_any (seed : List UInt8) (hs : seed.length ≤ 1000) (index : Nat) (hx : index ≤ 18446744073709551615) (d : List UInt8) (hl : d.length ≤ 9223372036854775807) (w : World) :
    Calls Try.prog 71 #[.string ⟨seed.toArray⟩, .int .u64 (index : Int), .string ⟨d.toArray⟩] w fun e w' => ∃ v, e = .returned (.tuple #[v, .int .i64 (sgc d : Int)]) ∧ strsAt w' w'.heap.size v (sgo seed index d) ∧ Below w.heap.size w w' := by
  by_cases hd : d.length = 32
  · refine (sign_any seed hs index hx d hd w).mono ?_
    rintro e w' ⟨v, rfl, ho, hb⟩
    unfold sgo sgc
    rw [if_pos hd, if_pos hd]
    exact ⟨v, rfl, ho.strs (fun s hs => by rw [sgn_mem_len _ _ _ s hs]; omega), hb⟩
  · refine (sign_no seed index d hl hd w).mono ?_
    rintro e w' ⟨rfl, hw⟩
    subst hw
    unfold sgo sgc
    rw [if_neg hd, if_neg hd]
    exact ⟨_, rfl, strsAt.nil _ _, Below.refl _ _⟩
theorem rsign2_any (seed : List UInt8) (hs : seed.length ≤ 1000) (index : Nat) (hx : index ≤ 18446744073709551615) (d : List UInt8) (hl : d.length ≤ 9223372036854775807) (w : World) :
    Calls Try.prog 72 #[.string ⟨seed.toArray⟩, .int .u64 (index : Int), .string ⟨d.toArray⟩] w fun e w' => ∃ v, e = .returned (.tuple #[v, .int .i64 (sgc d : Int)]) ∧ strsAt w' w'.heap.size v (sgo seed index d) ∧ Below w.heap.size w w' := by
  by_cases hd : d.length = 32
  · refine (rsign_any seed hs index hx d hd w).mono ?_
    rintro e w' ⟨v, rfl, ho, hb⟩
    unfold sgo sgc
    rw [if_pos hd, if_pos hd]
    exact ⟨v, rfl, ho.strs (fun s hs => by rw [sgn_mem_len _ _ _ s hs]; omega), hb⟩
  · refine (rsign_no seed index d hl hd w).mono ?_
    rintro e w' ⟨rfl, hw⟩
    subst hw
    unfold sgo sgc
    rw [if_neg hd, if_neg hd]
    exact ⟨_, rfl, strsAt.nil _ _, Below.refl _ _⟩
set_option maxRecDepth 100000 in
set_option maxHeartbeats 1000000 in
theorem signs_any (k : List UInt8 × Nat) (vk : Value) (hk : k.1.length ≤ 9223372036854775807 ∧ k.2 < 18446744073709551616 ∧ vk = .agg (keyV k.1 k.2).toArray) (d : List UInt8) (hd : d.length ≤ 9223372036854775807) {w : World} :
    Calls Try.prog 17 #[vk, .string ⟨d.toArray⟩] w fun e w' => e = .returned (.bool true) ∧ Below w.heap.size w w' := by
  obtain ⟨s, index⟩ := k
  obtain ⟨hsl, hix, rfl⟩ := hk
  simp only [] at hsl hix
  obtain ⟨q, hq, hqb, hqc⟩ : ∃ q : Nat, min (s.length : Int) 100 = (q : Int) ∧ (q = 100 ∨ (q = s.length ∧ s.length ≤ 100)) ∧ q ≤ s.length := by
    by_cases h3 : s.length ≤ 100
    · exact ⟨s.length, by omega, Or.inr ⟨rfl, h3⟩, Nat.le_refl _⟩
    · exact ⟨100, by omega, Or.inl rfl, by omega⟩
  have hqa : (if (100 : Int) < (s.length : Int) then (100 : Int) else (s.length : Int)) = (q : Int) := by
    rw [← hq]
    split <;> omega
  have HqB := hid hqb
  clear hqb
  have hcut := cut_text s 100 q HqB.out
  obtain ⟨r, hr, hrb, hrc⟩ : ∃ q : Nat, min (d.length : Int) 40 = (q : Int) ∧ (q = 40 ∨ (q = d.length ∧ d.length ≤ 40)) ∧ q ≤ d.length := by
    by_cases h3 : d.length ≤ 40
    · exact ⟨d.length, by omega, Or.inr ⟨rfl, h3⟩, Nat.le_refl _⟩
    · exact ⟨40, by omega, Or.inl rfl, by omega⟩
  have hra : (if (40 : Int) < (d.length : Int) then (40 : Int) else (d.length : Int)) = (r : Int) := by
    rw [← hr]
    split <;> omega
  have HrB := hid hrb
  clear hrb
  have hcut2 := cut_text d 40 r HrB.out
  obtain ⟨p, hp⟩ : ∃ p, p = s.take 100 := ⟨_, rfl⟩
  obtain ⟨dd, hdd⟩ : ∃ p, p = d.take 40 := ⟨_, rfl⟩
  have hpl : p.length ≤ 1000 := by rw [hp, List.length_take]; omega
  have hddl : dd.length ≤ 9223372036854775807 := by rw [hdd, List.length_take]; omega
  rw [← hp] at hcut
  rw [← hdd] at hcut2
  have hix2 : index ≤ 18446744073709551615 := by omega
  obtain ⟨L, hL⟩ : ∃ L, L = sgo p index dd := ⟨_, rfl⟩
  obtain ⟨n, hn⟩ : ∃ n, n = sgc dd := ⟨_, rfl⟩
  have HSG : Hid (∀ W, Calls Try.prog 71 #[.string ⟨p.toArray⟩, .int .u64 (index : Int), .string ⟨dd.toArray⟩] W fun e w' => ∃ v, e = .returned (.tuple #[v, .int .i64 (n : Int)]) ∧ strsAt w' w'.heap.size v L ∧ Below W.heap.size W w') := hid fun W => by rw [hL, hn]; exact sign2_any p hpl index hix2 dd hddl W
  have HRG : Hid (∀ W, Calls Try.prog 72 #[.string ⟨p.toArray⟩, .int .u64 (index : Int), .string ⟨dd.toArray⟩] W fun e w' => ∃ v, e = .returned (.tuple #[v, .int .i64 (n : Int)]) ∧ strsAt w' w'.heap.size v L ∧ Below W.heap.size W w') := hid fun W => by rw [hL, hn]; exact rsign2_any p hpl index hix2 dd hddl W
  obtain ⟨PB, hPB⟩ : ∃ PB, PB = pub p index := ⟨_, rfl⟩
  have HPB : Hid (∀ W, Calls Try.prog 73 #[.string ⟨p.toArray⟩, .int .u64 (index : Int)] W fun e w' => e = .returned (.string ⟨PB.toArray⟩) ∧ Below W.heap.size W w') := hid fun W => by rw [hPB]; exact public_any p hpl index hix2 W
  have HRB : Hid (∀ W, Calls Try.prog 74 #[.string ⟨p.toArray⟩, .int .u64 (index : Int)] W fun e w' => e = .returned (.string ⟨PB.toArray⟩) ∧ Below W.heap.size W w') := hid fun W => by rw [hPB]; exact rpublic_any p hpl index hix2 W
  clear hp hdd hL hn hPB hpl hddl hix2
  unfold keyV
  go_enter Try.func17, Try.ntmps17
  go_wp2_with fail
  obtain ⟨w1, hw1⟩ : ∃ w1, w1 = w.alloc (.cells (keyV p index).toArray 87) := ⟨_, rfl⟩
  have hb1 : Below w.heap.size w w1 := by rw [hw1]; exact (Below.refl _ _).alloc (Nat.le_refl _) _
  have a1 : arr w1 w.heap.size 87 (keyV p index) := by rw [hw1]; exact arr.new w _ _
  rw [show w.alloc (.cells #[.string ⟨p.toArray⟩, .int .u64 (index : Int)] 87) = w1 from hw1.symm]
  obtain ⟨kb, hkb⟩ : ∃ kb, kb = w.heap.size := ⟨_, rfl⟩
  rw [← hkb] at a1
  rw [← hkb]
  clear hw1 hkb
  refine (HSG.out w1).mono ?_
  rintro e w2 ⟨v, rfl, hv2, b2⟩
  have K2 := hid (a1.keep b2)
  have V2 := hid hv2
  have B2 := hid (below_all hb1 b2)
  have c0 := K2.out.cell 0 _ rfl
  have c1 := K2.out.cell 1 _ rfl
  have lk := K2.out.lt
  clear hv2 a1 hb1 b2
  go_wp2_with fail
  refine (HRG.out w2).mono ?_
  rintro e w3 ⟨v', rfl, hv3, b3⟩
  have K3 := hid (K2.out.keep b3)
  have V3a := hid (V2.out.keep' b3)
  have V3b := hid hv3
  have B3 := hid (below_all B2.out b3)
  clear hv3 b3 K2 V2 B2 c0 c1 lk
  go_wp2_with fail
  refine wp_region_sq (fun W' => W'.cell? ⟨kb, 0, none⟩ = some (.string ⟨p.toArray⟩) ∧ W'.cell? ⟨kb, 1, none⟩ = some (.int .u64 (index : Int)) ∧ kb < W'.heap.size) [(true, 0), (true, 1), (true, 2), (true, 3), (true, 5), (true, 6), (true, 7), (true, 8), (false, 4), (false, 9), (true, 10), (true, 11), (true, 12), (true, 13), (false, 14), (true, 15), (true, 16), (true, 17), (true, 18), (true, 19), (true, 20), (true, 21), (false, 22)] 23 rfl (by kernel_rfl) (by kernel_rfl) (by kernel_rfl) (by decide) rfl (by kernel_rfl) ⟨K3.out.cell 0 _ rfl, K3.out.cell 1 _ rfl, K3.out.lt⟩ ?_
  have K4 := hid (K3.out.keep (Below.refl w3.heap.size w3).drew)
  have V4a := hid (V3a.out.keep' (Below.refl w3.heap.size w3).drew)
  have V4b := hid (V3b.out.keep' (Below.refl w3.heap.size w3).drew)
  have B4 := hid (below_all B3.out (Below.refl w3.heap.size w3).drew)
  clear K3 V3a V3b B3
  generalize World.drew w3 = w4 at K4 V4a V4b B4 ⊢
  refine sq_soft rfl (by kernel_rfl) (fun W hW => (by obtain ⟨hW1, hW2, hW3⟩ := hW; go_simp; try rfl)) ?_; go_frame
  refine sq_soft rfl (by kernel_rfl) (fun W hW => (by obtain ⟨hW1, hW2, hW3⟩ := hW; go_simp; try rfl)) ?_; go_frame
  refine sq_soft rfl (by kernel_rfl) (fun W hW => (by obtain ⟨hW1, hW2, hW3⟩ := hW; go_simp; try rfl)) ?_; go_frame
  refine sq_soft rfl (by kernel_rfl) (fun W hW => (by obtain ⟨hW1, hW2, hW3⟩ := hW; go_simp; try rfl)) ?_; go_frame
  refine sq_soft rfl (by kernel_rfl) (fun W hW => (by obtain ⟨hW1, hW2, hW3⟩ := hW; go_simp; try rfl)) ?_; go_frame
  refine sq_soft rfl (by kernel_rfl) (fun W hW => (by obtain ⟨hW1, hW2, hW3⟩ := hW; go_simp; try rfl)) ?_; go_frame
  refine sq_soft rfl (by kernel_rfl) (fun W hW => (by obtain ⟨hW1, hW2, hW3⟩ := hW; go_simp; try rfl)) ?_; go_frame
  refine sq_soft rfl (by kernel_rfl) (fun W hW => (by obtain ⟨hW1, hW2, hW3⟩ := hW; go_simp; try rfl)) ?_; go_frame
  refine sq_op rfl (by kernel_rfl) ?_
  go_simp
  refine (HPB.out w4).mono ?_
  rintro e w5 ⟨rfl, b5⟩
  have K5 := hid (K4.out.keep b5)
  have V5a := hid (V4a.out.keep' b5)
  have V5b := hid (V4b.out.keep' b5)
  have B5 := hid (below_all B4.out b5)
  refine ⟨⟨K5.out.cell 0 _ rfl, K5.out.cell 1 _ rfl, K5.out.lt⟩, ?_⟩
  clear b5 K4 V4a V4b B4
  try go_frame
  refine sq_op rfl (by kernel_rfl) ?_
  go_simp
  refine (HRB.out w5).mono ?_
  rintro e w6 ⟨rfl, b6⟩
  have K6 := hid (K5.out.keep b6)
  have V6a := hid (V5a.out.keep' b6)
  have V6b := hid (V5b.out.keep' b6)
  have B6 := hid (below_all B5.out b6)
  refine ⟨⟨K6.out.cell 0 _ rfl, K6.out.cell 1 _ rfl, K6.out.lt⟩, ?_⟩
  clear b6 K5 V5a V5b B5
  try go_frame
  refine sq_soft rfl (by kernel_rfl) (fun W hW => (by obtain ⟨hW1, hW2, hW3⟩ := hW; go_simp; try rfl)) ?_; go_frame
  refine sq_soft rfl (by kernel_rfl) (fun W hW => (by obtain ⟨hW1, hW2, hW3⟩ := hW; go_simp; try rfl)) ?_; go_frame
  refine sq_soft rfl (by kernel_rfl) (fun W hW => (by obtain ⟨hW1, hW2, hW3⟩ := hW; go_simp; try rfl)) ?_; go_frame
  refine sq_soft rfl (by kernel_rfl) (fun W hW => (by obtain ⟨hW1, hW2, hW3⟩ := hW; go_simp; try rfl)) ?_; go_frame
  refine sq_op rfl (by kernel_rfl) ?_
  go_simp
  refine (same_any L _ _ w6 V6a.out V6b.out).mono ?_
  rintro e w7 ⟨rfl, b7⟩
  have K7 := hid (K6.out.keep b7)
  have V7a := hid (V6a.out.keep' b7)
  have V7b := hid (V6b.out.keep' b7)
  have B7 := hid (below_all B6.out b7)
  refine ⟨⟨K7.out.cell 0 _ rfl, K7.out.cell 1 _ rfl, K7.out.lt⟩, ?_⟩
  clear b7 K6 V6a V6b B6
  try go_frame
  refine sq_soft rfl (by kernel_rfl) (fun W hW => (by obtain ⟨hW1, hW2, hW3⟩ := hW; go_simp; try rfl)) ?_; go_frame
  refine sq_soft rfl (by kernel_rfl) (fun W hW => (by obtain ⟨hW1, hW2, hW3⟩ := hW; go_simp; try rfl)) ?_; go_frame
  refine sq_soft rfl (by kernel_rfl) (fun W hW => (by obtain ⟨hW1, hW2, hW3⟩ := hW; go_simp; try rfl)) ?_; go_frame
  refine sq_soft rfl (by kernel_rfl) (fun W hW => (by obtain ⟨hW1, hW2, hW3⟩ := hW; go_simp; try rfl)) ?_; go_frame
  refine sq_soft rfl (by kernel_rfl) (fun W hW => (by obtain ⟨hW1, hW2, hW3⟩ := hW; go_simp; try rfl)) ?_; go_frame
  refine sq_soft rfl (by kernel_rfl) (fun W hW => (by obtain ⟨hW1, hW2, hW3⟩ := hW; go_simp; try rfl)) ?_; go_frame
  refine sq_soft rfl (by kernel_rfl) (fun W hW => (by obtain ⟨hW1, hW2, hW3⟩ := hW; go_simp; try rfl)) ?_; go_frame
  refine sq_op rfl (by kernel_rfl) ?_
  go_simp
  refine (works13_any w7).mono ?_
  rintro e w8 ⟨rfl, b8⟩
  have K8 := hid (K7.out.keep b8)
  have V8a := hid (V7a.out.keep' b8)
  have V8b := hid (V7b.out.keep' b8)
  have B8 := hid (below_all B7.out b8)
  refine ⟨⟨K8.out.cell 0 _ rfl, K8.out.cell 1 _ rfl, K8.out.lt⟩, ?_⟩
  clear b8 K7 V7a V7b B7
  try go_frame
  refine sched_done ?_
  go_wp2
  go_ret
  exact ⟨rfl, B8.out⟩
end Go.Proofs.Ytcfohdkdppiekaa
