/- The law WindowAlike: walk. -/
import Derived.Test.YtcfohdkdppiekaaWWorks24
import Derived.Test.YtcfohdkdppiekaaSpecPlay
import Derived.Test.YtcfohdkdppiekaaBytesAt
namespace Go.Proofs.Ytcfohdkdppiekaa
open Go Go.RowKit Go.Proofs
/-- the roots: of the sizes themselves -/
def rfS (s : List UInt8) (k : Nat) : List UInt8 := rootOf (s.getD k 0) false
theorem rfS_len (s : List UInt8) (k : Nat) : (rfS s k).length = 32 := by simp [rfS, rootOf]
set_option maxRecDepth 100000 in
set_option maxHeartbeats 4000000 in
theorem alike24 (m : Int) (hm : 0 ≤ m ∧ m ≤ 255) (l : List UInt8) (v : Value) (w : World) (hv : bytesAt w w.heap.size v l) : Calls Try.prog 13 #[.int .u8 m, v] w fun e w' => e = .returned (.bool true) ∧ Below w.heap.size w w' := by
  obtain ⟨A, c, rfl, hlc, hc, hx⟩ := hv
  have HX := hid hx
  clear hx
  obtain ⟨n, hn⟩ : ∃ n : Nat, n = 1 + (m % 32).toNat := ⟨_, rfl⟩
  have hn1 : 1 ≤ n := by omega
  have hn32 : n ≤ 32 := by omega
  have hnI : 1 + m % 32 = (n : Int) := by omega
  have HN1 := hid hn1
  have HN32 := hid hn32
  clear hn hn1 hn32
  go_enter Try.func13, Try.ntmps13
  go_wp2_with fail
  refine (works24_any w).mono ?_
  rintro e w0 ⟨rfl, b0⟩
  have B0 := hid b0
  clear b0
  go_wp2_with fail
  refine (wnew_ws n HN1.out HN32.out w w0 B0.out).mono ?_
  rintro e w1 ⟨rfl, s1, b1⟩
  obtain ⟨ga, hga⟩ : ∃ g, g = w0.heap.size := ⟨_, rfl⟩
  rw [← hga] at s1
  rw [← hga]
  have S1 := hid s1
  clear s1 b1 hga B0
  go_wp2_with fail
  refine (wnew_ws n HN1.out HN32.out w w1 S1.out.below).mono ?_
  rintro e w2 ⟨rfl, s2, b2⟩
  obtain ⟨gb, hgb⟩ : ∃ g, g = w1.heap.size := ⟨_, rfl⟩
  rw [← hgb] at s2
  rw [← hgb]
  have S2 := hid s2
  have R2 := hid (S1.out.quiet b2)
  have NE := hid (show ga ≠ gb by have := S1.out.win.lt; omega)
  clear s2 b2 hgb S1
  obtain ⟨L, hL⟩ : ∃ L, L = l.length := ⟨_, rfl⟩
  rw [← hL] at hlc
  rw [← hL]
  have HL := hid hL
  clear hL
  obtain ⟨q, hq, hqb, hqc⟩ : ∃ q : Nat, min (L : Int) 40 = (q : Int) ∧ (q = 40 ∨ (q = L ∧ L ≤ 40)) ∧ q ≤ L := by
    by_cases h3 : L ≤ 40
    · exact ⟨L, by omega, Or.inr ⟨rfl, h3⟩, Nat.le_refl _⟩
    · exact ⟨40, by omega, Or.inl rfl, by omega⟩
  have hqa : (if (40 : Int) < (L : Int) then (40 : Int) else (L : Int)) = (q : Int) := by
    rw [← hq]
    split <;> omega
  have HqB := hid hqb
  clear hqb
  have hqc' : (q : Int) ≤ (c : Int) := by omega
  have hq40 : q ≤ 40 := by rcases HqB.out with h | h <;> omega
  go_wp2_with fail
  have HQL := hid (show q ≤ l.length by rw [← HL.out]; exact hqc)
  clear hq hqa HqB hqc hlc
  go_loopw [8, 9] (fun at_ i wr => ∃ k : Nat, k ≤ q ∧ i = .int .i64 k ∧ at_ = .int .u64 (atK 100 l k : Nat) ∧ WS w ga n (lastN n (ivs 100 l (rfS l) k)) wr ∧ WS w gb n ((ivs 100 l (rfS l) k).drop (q - n)) wr) (fun _ i _ => q - (intOf i).toNat)
  case atStart => exact ⟨0, by omega, rfl, rfl, by simpa [ivs, lastN] using R2.out, by simpa [ivs] using S2.out⟩
  case round =>
    obtain ⟨k, hk, rfl, rfl, hsa, hsb⟩ := hrel
    have HSA := hid hsa
    have HSB := hid hsb
    clear hsa hsb
    by_cases hlk : k < q
    · have hlk' : (k : Int) < (q : Int) := by omega
      obtain ⟨a, rfl, hab, hcell⟩ := HX.out k (by have := HQL.out; omega)
      rw [← HSA.out.below.cell (by rw [block_add]; exact hab)] at hcell
      have hak : (a.add k).block < wr.heap.size := by rw [block_add]; have := HSA.out.below.size; omega
      obtain ⟨x, hx⟩ : ∃ x : UInt8, x = l.getD k 0 := ⟨_, rfl⟩
      rw [← hx] at hcell
      have hx255 : x.toNat ≤ 255 := by have := x.toNat_lt; omega
      obtain ⟨p, hp⟩ : ∃ p, p = atK 100 l k := ⟨_, rfl⟩
      rw [← hp]
      have hp1 : p ≤ 3000 := by have := (atK_le 100 l k).2; omega
      obtain ⟨z, hz⟩ : ∃ z, z = p + x.toNat % 64 := ⟨_, rfl⟩
      have hzI : (p : Int) + (x.toNat : Int) % 64 = (z : Int) := by omega
      have hz1 : z ≤ 4000 := by omega
      have HXX := hid hx
      have HP := hid hp
      have HZ := hid hz
      clear hx hp hz hab
      go_wp2_with fail
      refine (root_any false 0 0 0 x false wr).mono ?_
      rintro e w3 ⟨rfl, b3⟩
      have A3 := hid (HSA.out.quiet b3)
      have D3 := hid (HSB.out.quiet b3)
      clear b3 HSA HSB hcell hak
      obtain ⟨r, hr⟩ : ∃ r, r = rootOf x false := ⟨_, rfl⟩
      have hrl : r.length = 32 := by rw [hr]; simp [rootOf]
      have HR := hid hr
      have HRL := hid hrl
      rw [← hr]
      clear hr hrl
      have hiv : ivK 100 l (rfS l) k = (p, z, r) := by
        unfold ivK rfS
        rw [← HP.out, ← HXX.out, ← HR.out, ← HZ.out]
      have pa := ivs_put (st := 100) (s := l) (rfS_len l) n k HN1.out (by omega)
      rw [hiv] at pa
      have PA := hid pa
      have HIV := hid hiv
      clear pa hiv
      go_wp2_with fail
      have p4 := A3.out.more (f := p) (l := z) (r := r) (by have := HRL.out; omega) (by omega) (by omega)
      rw [PA.out.1, if_pos rfl, PA.out.2] at p4
      have P4 := hid p4
      clear p4
      refine P4.out.mono ?_
      rintro e w4 ⟨rfl, s4, g4⟩
      have A4 := hid s4
      have D4 := hid (D3.out.other g4 (fun e => NE.out e.symm) s4.hi)
      clear s4 g4 A3 D3 P4 PA
      have hat : atK 100 l (k + 1) = z + 1 := by rw [atK, ← HP.out, ← HXX.out, HZ.out]
      have HAT := hid hat
      clear hat
      by_cases hge : q - n ≤ k
      · have hge' : (q : Int) - (n : Int) ≤ (k : Int) := by omega
        have pb := ivs_putB (st := 100) (s := l) (rfS_len l) n (q - n) k hge (by have := HN1.out; omega) (by omega)
        rw [HIV.out] at pb
        have PB := hid pb
        clear pb
        go_wp2_with fail
        have p5 := D4.out.more (f := p) (l := z) (r := r) (by have := HRL.out; omega) (by omega) (by omega)
        rw [PB.out.1, if_pos rfl, PB.out.2] at p5
        have P5 := hid p5
        clear p5
        refine P5.out.mono ?_
        rintro e w5 ⟨rfl, s5, g5⟩
        have D5 := hid s5
        have A5 := hid (A4.out.other g5 NE.out s5.hi)
        clear s5 g5 A4 D4 P5 PB
        go_wp2
        go_roundw
        case rel => exact ⟨k + 1, by omega, by go_num, by rw [HAT.out]; go_num, A5.out, D5.out⟩
        case measure => simp [intOf]; omega
      · have hge' : ¬ (q : Int) - (n : Int) ≤ (k : Int) := by omega
        have hdrop : (ivs 100 l (rfS l) k).drop (q - n) = (ivs 100 l (rfS l) (k + 1)).drop (q - n) := by
          rw [List.drop_of_length_le (by rw [ivs_len]; omega), List.drop_of_length_le (by rw [ivs_len]; omega)]
        have HDR := hid hdrop
        clear hdrop
        go_wp2
        go_roundw
        case rel => exact ⟨k + 1, by omega, by go_num, by rw [HAT.out]; go_num, A4.out, by rw [← HDR.out]; exact D4.out⟩
        case measure => simp [intOf]; omega
    · obtain rfl : k = q := by omega
      obtain ⟨X, hX⟩ : ∃ X, X = lastN n (ivs 100 l (rfS l) k) := ⟨_, rfl⟩
      have hY : (ivs 100 l (rfS l) k).drop (k - n) = X := by rw [hX, lastN_ivs]
      have hsa := HSA.out
      have hsb := HSB.out
      rw [← hX] at hsa
      rw [hY] at hsb
      have A1 := hid hsa
      have D1 := hid hsb
      clear hsa hsb HSA HSB hX hY
      have hD : (wdig X).length = 32 := wdig_len X
      obtain ⟨d, hd⟩ : ∃ d, d = wdig X := ⟨_, rfl⟩
      rw [← hd] at hD
      have HD := hid hd
      clear hd
      go_wp2_with fail
      refine (digest_any ga n X wr A1.out.win).mono ?_
      rintro e w3 ⟨rfl, b3⟩
      have A3 := hid (A1.out.quiet b3)
      have D3 := hid (D1.out.quiet b3)
      rw [← HD.out]
      clear b3 A1 D1
      go_wp2_with fail
      refine (digest_any gb n X w3 D3.out.win).mono ?_
      rintro e w4 ⟨rfl, b4⟩
      have A4 := hid (A3.out.quiet b4)
      have D4 := hid (D3.out.quiet b4)
      rw [← HD.out]
      clear b4 A3 D3
      go_wp2_with fail
      refine (wlen_any ga n X w4 A4.out.win).mono ?_
      rintro e w5 ⟨rfl, hw5⟩
      subst w5
      go_wp2_with fail
      refine (wlen_any gb n X w4 D4.out.win).mono ?_
      rintro e w5 ⟨rfl, hw5⟩
      subst w5
      go_wp2_with fail
      refine (digest_any ga n X w4 A4.out.win).mono ?_
      rintro e w5 ⟨rfl, b5⟩
      have A5 := hid (A4.out.quiet b5)
      rw [← HD.out]
      clear b5 A4 D4
      have hDI : (d.length : Int) = 32 := by omega
      go_wp2
      go_ret
      exact ⟨rfl, A5.out.below⟩
end Go.Proofs.Ytcfohdkdppiekaa
