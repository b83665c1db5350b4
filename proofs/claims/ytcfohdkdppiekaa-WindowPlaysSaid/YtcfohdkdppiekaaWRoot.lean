/- law24's root: contract; any Put. -/
import Derived.Test.YtcfohdkdppiekaaWWinPut
import Derived.Test.YtcfohdkdppiekaaZeros
namespace Go.Proofs.Ytcfohdkdppiekaa
open Go Go.RowKit Go.Proofs
/-- a root: a letter, 32 times, or 31 -/
def rootOf (c : UInt8) (short : Bool) : List UInt8 := List.replicate (if short then 31 else 32) c
theorem rootOf_len (c : UInt8) (short : Bool) : (rootOf c short).length = if short then 31 else 32 := by simp [rootOf]
def fill (c : UInt8) (k : Nat) : List UInt8 := List.replicate k c ++ List.replicate (32 - k) 0
theorem fill_len (c : UInt8) (k : Nat) (hk : k ≤ 32) : (fill c k).length = 32 := by simp [fill]; omega
theorem fill_set (c : UInt8) (k : Nat) (hk : k < 32) : (bcs (fill c k)).set k (.int .u8 (c.toNat : Int)) = bcs (fill c (k + 1)) := by
  have e : fill c (k + 1) = (fill c k).set k c := by
    unfold fill
    rw [List.set_append_right _ _ (by simp), List.length_replicate, Nat.sub_self, show 32 - k = (32 - (k + 1)) + 1 by omega, List.replicate_succ' (n := k), List.append_assoc]
    rfl
  rw [e]
  unfold bcs
  rw [List.map_set]
set_option maxRecDepth 100000 in
set_option maxHeartbeats 1000000 in
theorem root_any (put : Bool) (off first rounds : Int) (c : UInt8) (short : Bool) (w : World) :
    Calls Try.prog 55 #[.agg #[.bool put, .int .i8 off, .int .u64 first, .int .u8 rounds, .int .u8 (c.toNat : Int), .bool short]] w fun e w' => e = .returned (.string ⟨(rootOf c short).toArray⟩) ∧ Below w.heap.size w w' := by
  go_enter Try.func55, Try.ntmps55
  obtain ⟨B, hB⟩ : ∃ B, B = w.heap.size := ⟨_, rfl⟩
  obtain ⟨w0, hw0⟩ : ∃ w0, w0 = w.alloc (.cells #[.bool put, .int .i8 off, .int .u64 first, .int .u8 rounds, .int .u8 (c.toNat : Int), .bool short] 53) := ⟨_, rfl⟩
  have hb0 : Below w.heap.size w w0 := by rw [hw0]; exact (Below.refl _ _).alloc (Nat.le_refl _) _
  have ha0 : arr w0 B 53 [.bool put, .int .i8 off, .int .u64 first, .int .u8 rounds, .int .u8 (c.toNat : Int), .bool short] := by rw [hw0, hB]; exact arr.new w _ _
  have HB0 := hid hb0
  have HA0 := hid ha0
  clear hb0 ha0
  go_wp2_with (rw [← hw0]; refine wpList_zerosA rfl _ _ rfl 32 rfl rfl (by omega) ?_; intro w1 hA hb1 hlt1; have HA := hid hA; have HB := hid hb1; have HL := hid hlt1; clear hA hb1 hlt1)
  obtain ⟨E, hE⟩ : ∃ E, E = w.heap.size + 1 := ⟨_, rfl⟩
  have hE0 : w0.heap.size = E := by rw [hw0, hE]; simp
  rw [hE0] at HA HL
  rw [← hE, ← hB]
  have hBE : E ≠ B := by omega
  have HB1 := hid (HA0.out.keep HB.out)
  have HBW := hid (below_all HB0.out HB.out)
  have HEB := hid hBE
  have HWE := hid (show w.heap.size ≤ E by omega)
  clear hE hE0 hB hw0 HA0 HB0 HB hBE
  go_loopw [4] (fun i wr => ∃ k : Nat, k ≤ 32 ∧ i = .int .i64 k ∧ Below w.heap.size w wr ∧ arr wr E 5 (bcs (fill c k)) ∧ arr wr B 53 [.bool put, .int .i8 off, .int .u64 first, .int .u8 rounds, .int .u8 (c.toNat : Int), .bool short]) (fun i _ => 32 - (intOf i).toNat)
  case atStart => exact ⟨0, by omega, rfl, HBW.out, HA.out, HB1.out⟩
  case round =>
    obtain ⟨k, hk, rfl, bw4, a4, b4⟩ := hrel
    have y4 := b4.cell 4 _ rfl
    have y5 := b4.cell 5 _ rfl
    have ly := b4.lt
    by_cases hlk : k < 32
    · have hlk' : (k : Int) < 32 := by omega
      obtain ⟨v0, hv0⟩ : ∃ v, (bcs (fill c k))[k]? = some v := ⟨_, bcs_get _ _ (by rw [fill_len c _ hk]; omega)⟩
      have c4 := a4.cell k v0 hv0
      have f4 := a4.free k
      clear hv0
      go_wp2
      go_roundw
      case rel =>
        refine ⟨k + 1, by omega, by go_num, bw4.setCell (by simp; exact HWE.out) _, ?_, b4.other _ HEB.out _⟩
        rw [← fill_set c _ hlk]
        exact a4.set k _
      case measure => simp [intOf]; omega
    · obtain rfl : k = 32 := by omega
      have a5 : arr wr E 5 (bcs (List.replicate 32 c)) := a4
      have A5 := hid a5
      have B5 := hid bw4
      clear a5 bw4 a4 b4 HA HB1 HBW hk
      cases short
      · go_wp2_with (refine wpList_b2s rfl _ rfl E 0 32 32 (List.replicate 32 c) rfl (by simp) (arr_cells A5.out 0) ?_)
        go_ret
        exact ⟨rfl, B5.out⟩
      · go_wp2_with (refine wpList_b2s rfl _ rfl E 1 31 31 (List.replicate 31 c) rfl (by simp) (arr_cells A5.out 1) ?_)
        go_ret
        exact ⟨rfl, B5.out⟩
/-- Put, whatever is given -/
theorem wput_any (g most : Nat) (L : List Iv) (f l : Nat) (r : List UInt8) (hr : r.length ≤ 9223372036854775807) (hf : f < 18446744073709551616) (hl : l < 18446744073709551616) (w : World) (h : isW w g most L) :
    Calls Try.prog 54 #[.pointer (some ⟨g, 0, none⟩), .int .u64 (f : Int), .int .u64 (l : Int), .string ⟨r.toArray⟩] w fun e w' => e = .returned (.int .i64 (putE L f l r : Nat)) ∧ isW w' g most (if putE L f l r = 0 then putL most L (f, l, r) else L) ∧ w.grownBy w' (some g) := by
  by_cases hok : ivOk f l r
  · by_cases hn : nxr L = none ∨ nxr L = some f
    · have e : putE L f l r = 0 := by unfold putE; rw [if_neg (fun h => h hok), if_pos hn]
      refine (wput_ok g most L f l r hf hok hn w h).mono ?_
      rintro e' w' ⟨rfl, h1, h2⟩
      rw [e, if_pos rfl]
      exact ⟨rfl, h1, h2⟩
    · have e : putE L f l r = 17 := by unfold putE; rw [if_neg (fun h => h hok), if_neg hn]
      obtain ⟨n, hnn⟩ : ∃ n, nxr L = some n := by
        cases hx : nxr L with
        | none => exact absurd (Or.inl hx) hn
        | some n => exact ⟨n, rfl⟩
      refine (wput_next g most L f l r hf hok n hnn (fun e => hn (Or.inr (by rw [hnn, e]))) w h).mono ?_
      rintro e' w' ⟨rfl, h1⟩
      rw [e, if_neg (by decide)]
      exact ⟨rfl, h.keep h1, grown_below h1⟩
  · have e : putE L f l r = 2 := by unfold putE; rw [if_pos hok]
    refine (wput_arg g most L f l r hr hf hl hok w h).mono ?_
    rintro e' w' ⟨rfl, h1⟩
    rw [e, if_neg (by decide)]
    exact ⟨rfl, h.keep h1, grown_below h1⟩
end Go.Proofs.Ytcfohdkdppiekaa
