/- pack's document: bytes, one, num, head, Laid: contracts. -/
import Derived.Test.YtcfohdkdppiekaaDoorWPackW
namespace Go.Proofs.YtcfohdkdppiekaaDoor
open Go.RowKit Go.Proofs
set_option maxRecDepth 100000 in
set_option maxHeartbeats 1000000 in
theorem rbytes_any (n size : Nat) (hn : n < 2 ^ 64) (hs : size ≤ 8) (w : World) : Calls Tryd.prog 38 #[.int .u64 (n : Int), .int .i64 (size : Int)] w fun e w' => e = .returned (.string ⟨(be n size).toArray⟩) ∧ Below w.heap.size w w' := by
  go_enter Tryd.func38, Tryd.ntmps38
  go_wp2
  go_loopw [0, 5, 6] (fun x u i wr => ∃ k : Nat, k ≤ size ∧ i = .int .i64 k ∧ x = .int .u64 ((n / 256 ^ k : Nat) : Int) ∧ u = .string ⟨(be n k).toArray⟩ ∧ Below w.heap.size w wr) (fun _ _ i _ => size - (intOf i).toNat)
  case atStart => exact ⟨0, by omega, rfl, by simp, rfl, Below.refl _ _⟩
  case round =>
    obtain ⟨k, hk, rfl, rfl, rfl, hb⟩ := hrel
    by_cases hlk : k < size
    · have hlk' : (k : Int) < (size : Int) := by omega
      obtain ⟨m, hm⟩ : ∃ m, m = n / 256 ^ k := ⟨_, rfl⟩
      rw [← hm]
      have hml : m ≤ 18446744073709551615 := by rw [hm]; exact Nat.le_trans (Nat.div_le_self _ _) (by omega)
      have HM := hid hm
      have kc := fun W : World => conv1 W W.heap.size ((m : Int) % 256) rfl (by omega) (by omega)
      have hbl : (be n k).length ≤ 8 := by rw [be_len]; omega
      clear hm
      go_wp2
      go_roundw
      case rel =>
        refine ⟨k + 1, by omega, by go_num, ?_, ?_, hb.alloc hb.size _⟩
        · rw [Nat.pow_succ, ← Nat.div_div_eq_div_mul, ← HM.out]
          simp
        · rw [be_succ, ← HM.out]
          have e : UInt8.ofNat m = UInt8.ofNat (m % 256) := by
            apply UInt8.toNat.inj; simp
          rw [e]
          exact congrArg Value.string (str_app [UInt8.ofNat (m % 256)] (be n k))
      case measure => simp [intOf]; omega
    · obtain rfl : k = size := by omega
      go_wp2
      go_ret
      exact ⟨rfl, hb⟩
set_option maxRecDepth 100000 in
set_option maxHeartbeats 1000000 in
theorem rone_any (n : Nat) (hn : n < 256) (w : World) : Calls Tryd.prog 37 #[.int .u64 (n : Int)] w fun e w' => e = .returned (.string ⟨[UInt8.ofNat n].toArray⟩) ∧ Below w.heap.size w w' := by
  have kc := fun W : World => conv1 W W.heap.size (n : Int) rfl (by omega) (by omega)
  go_enter Tryd.func37, Tryd.ntmps37
  go_wp2
  go_ret
  exact ⟨rfl, (Below.refl _ _).alloc (Nat.le_refl _) _⟩
set_option maxRecDepth 100000 in
set_option maxHeartbeats 2000000 in
theorem rnum_any (n : Nat) (hn : n < 2 ^ 64) (w : World) : Calls Tryd.prog 26 #[.int .u64 (n : Int)] w fun e w' => e = .returned (.string ⟨(pick (tab.getD 0 []) n).toArray⟩) ∧ Below w.heap.size w w' := by
  by_cases h128 : n < 128
  · obtain ⟨X, hX⟩ : ∃ X, X = UInt8.ofNat n := ⟨_, rfl⟩
    have hp : pick (tab.getD 0 []) n = [X] := by simp [tab, pick, fits, layRow, *]
    rw [hp]
    have HX := hid hX
    clear hp hX
    obtain ⟨N, hN⟩ : ∃ N : Int, N = (n : Int) := ⟨_, rfl⟩
    rw [← hN]
    have N0 : 0 ≤ N := by omega
    have N1 : N < 18446744073709551616 := by omega
    have i128 : N < 128 := by omega
    have G128 := hid h128
    clear h128
    have HN := hid hN
    have hnn := hid hn
    clear hN hn
    go_enter Tryd.func26, Tryd.ntmps26
    go_wp2_with fail
    have eN : N = ((n : Nat) : Int) := by have := HN.out; push_cast; omega
    rw [eN]
    refine (rone_any n (by have := G128.out; omega) _).mono ?_
    rintro e w1 ⟨rfl, b1⟩
    rw [← HX.out]
    go_wp2
    go_ret
    exact ⟨rfl, b1⟩
  · skip
    by_cases h256 : n < 256
    · have hp : pick (tab.getD 0 []) n = 204 :: be n 1 := by simp [tab, pick, fits, layRow, *]
      rw [hp]
      clear hp
      obtain ⟨N, hN⟩ : ∃ N : Int, N = (n : Int) := ⟨_, rfl⟩
      rw [← hN]
      have N0 : 0 ≤ N := by omega
      have N1 : N < 18446744073709551616 := by omega
      have i128 : (128 : Int) ≤ N := by omega
      have G128 := hid h128
      clear h128
      have i256 : N < 256 := by omega
      have G256 := hid h256
      clear h256
      have HN := hid hN
      have hnn := hid hn
      clear hN hn
      go_enter Tryd.func26, Tryd.ntmps26
      go_wp2_with fail
      rw [HN.out]
      refine (rbytes_any n 1 (by have := hnn.out; omega) (by omega) _).mono ?_
      rintro e w1 ⟨rfl, b1⟩
      have hbl : (be n 1).length ≤ 8 := by rw [be_len]; omega
      go_wp2
      go_ret
      exact ⟨congrArg (fun x => Ending.returned (Value.string x)) (str_app [204] (be n 1)), b1⟩
    · skip
      by_cases h65536 : n < 65536
      · have hp : pick (tab.getD 0 []) n = 205 :: be n 2 := by simp [tab, pick, fits, layRow, *]
        rw [hp]
        clear hp
        obtain ⟨N, hN⟩ : ∃ N : Int, N = (n : Int) := ⟨_, rfl⟩
        rw [← hN]
        have N0 : 0 ≤ N := by omega
        have N1 : N < 18446744073709551616 := by omega
        have i128 : (128 : Int) ≤ N := by omega
        have G128 := hid h128
        clear h128
        have i256 : (256 : Int) ≤ N := by omega
        have G256 := hid h256
        clear h256
        have i65536 : N < 65536 := by omega
        have G65536 := hid h65536
        clear h65536
        have HN := hid hN
        have hnn := hid hn
        clear hN hn
        go_enter Tryd.func26, Tryd.ntmps26
        go_wp2_with fail
        rw [HN.out]
        refine (rbytes_any n 2 (by have := hnn.out; omega) (by omega) _).mono ?_
        rintro e w1 ⟨rfl, b1⟩
        have hbl : (be n 2).length ≤ 8 := by rw [be_len]; omega
        go_wp2
        go_ret
        exact ⟨congrArg (fun x => Ending.returned (Value.string x)) (str_app [205] (be n 2)), b1⟩
      · skip
        by_cases h4294967296 : n < 4294967296
        · have hp : pick (tab.getD 0 []) n = 206 :: be n 4 := by simp [tab, pick, fits, layRow, *]
          rw [hp]
          clear hp
          obtain ⟨N, hN⟩ : ∃ N : Int, N = (n : Int) := ⟨_, rfl⟩
          rw [← hN]
          have N0 : 0 ≤ N := by omega
          have N1 : N < 18446744073709551616 := by omega
          have i128 : (128 : Int) ≤ N := by omega
          have G128 := hid h128
          clear h128
          have i256 : (256 : Int) ≤ N := by omega
          have G256 := hid h256
          clear h256
          have i65536 : (65536 : Int) ≤ N := by omega
          have G65536 := hid h65536
          clear h65536
          have i4294967296 : N < 4294967296 := by omega
          have G4294967296 := hid h4294967296
          clear h4294967296
          have HN := hid hN
          have hnn := hid hn
          clear hN hn
          go_enter Tryd.func26, Tryd.ntmps26
          go_wp2_with fail
          rw [HN.out]
          refine (rbytes_any n 4 (by have := hnn.out; omega) (by omega) _).mono ?_
          rintro e w1 ⟨rfl, b1⟩
          have hbl : (be n 4).length ≤ 8 := by rw [be_len]; omega
          go_wp2
          go_ret
          exact ⟨congrArg (fun x => Ending.returned (Value.string x)) (str_app [206] (be n 4)), b1⟩
        · skip
          have hp : pick (tab.getD 0 []) n = 207 :: be n 8 := by simp [tab, pick, fits, layRow, *]
          rw [hp]
          clear hp
          obtain ⟨N, hN⟩ : ∃ N : Int, N = (n : Int) := ⟨_, rfl⟩
          rw [← hN]
          have N0 : 0 ≤ N := by omega
          have N1 : N < 18446744073709551616 := by omega
          have i128 : (128 : Int) ≤ N := by omega
          have G128 := hid h128
          clear h128
          have i256 : (256 : Int) ≤ N := by omega
          have G256 := hid h256
          clear h256
          have i65536 : (65536 : Int) ≤ N := by omega
          have G65536 := hid h65536
          clear h65536
          have i4294967296 : (4294967296 : Int) ≤ N := by omega
          have G4294967296 := hid h4294967296
          clear h4294967296
          have HN := hid hN
          have hnn := hid hn
          clear hN hn
          go_enter Tryd.func26, Tryd.ntmps26
          go_wp2_with fail
          rw [HN.out]
          refine (rbytes_any n 8 (by have := hnn.out; omega) (by omega) _).mono ?_
          rintro e w1 ⟨rfl, b1⟩
          have hbl : (be n 8).length ≤ 8 := by rw [be_len]; omega
          go_wp2
          go_ret
          exact ⟨congrArg (fun x => Ending.returned (Value.string x)) (str_app [207] (be n 8)), b1⟩
set_option maxRecDepth 100000 in
set_option maxHeartbeats 2000000 in
theorem rhead1_any (n : Nat) (hn : n < 65536) (w : World) : Calls Tryd.prog 27 #[.int .i64 1, .int .u64 (n : Int)] w fun e w' => e = .returned (.string ⟨(pick (tab.getD 1 []) n).toArray⟩) ∧ Below w.heap.size w w' := by
  by_cases h256 : n < 256
  · have hp : pick (tab.getD 1 []) n = 196 :: be n 1 := by simp [tab, pick, fits, layRow, *]
    rw [hp]
    clear hp
    obtain ⟨N, hN⟩ : ∃ N : Int, N = (n : Int) := ⟨_, rfl⟩
    rw [← hN]
    have N0 : 0 ≤ N := by omega
    have N1 : N < 18446744073709551616 := by omega
    have i256 : N < 256 := by omega
    have G256 := hid h256
    clear h256
    have HN := hid hN
    have hnn := hid hn
    clear hN hn
    go_enter Tryd.func27, Tryd.ntmps27
    go_wp2_with fail
    rw [HN.out]
    refine (rbytes_any n 1 (by have := hnn.out; omega) (by omega) _).mono ?_
    rintro e w1 ⟨rfl, b1⟩
    have hbl : (be n 1).length ≤ 8 := by rw [be_len]; omega
    go_wp2
    go_ret
    exact ⟨congrArg (fun x => Ending.returned (Value.string x)) (str_app [196] (be n 1)), b1⟩
  · skip
    have hp : pick (tab.getD 1 []) n = 197 :: be n 2 := by simp [tab, pick, fits, layRow, *]
    rw [hp]
    clear hp
    obtain ⟨N, hN⟩ : ∃ N : Int, N = (n : Int) := ⟨_, rfl⟩
    rw [← hN]
    have N0 : 0 ≤ N := by omega
    have N1 : N < 18446744073709551616 := by omega
    have i256 : (256 : Int) ≤ N := by omega
    have G256 := hid h256
    clear h256
    have HN := hid hN
    have hnn := hid hn
    clear hN hn
    go_enter Tryd.func27, Tryd.ntmps27
    go_wp2_with fail
    rw [HN.out]
    refine (rbytes_any n 2 (by have := hnn.out; omega) (by omega) _).mono ?_
    rintro e w1 ⟨rfl, b1⟩
    have hbl : (be n 2).length ≤ 8 := by rw [be_len]; omega
    go_wp2
    go_ret
    exact ⟨congrArg (fun x => Ending.returned (Value.string x)) (str_app [197] (be n 2)), b1⟩
set_option maxRecDepth 100000 in
set_option maxHeartbeats 2000000 in
theorem rhead2_any (n : Nat) (hn : n < 65536) (w : World) : Calls Tryd.prog 27 #[.int .i64 2, .int .u64 (n : Int)] w fun e w' => e = .returned (.string ⟨(pick (tab.getD 2 []) n).toArray⟩) ∧ Below w.heap.size w w' := by
  by_cases h32 : n < 32
  · obtain ⟨X, hX⟩ : ∃ X, X = UInt8.ofNat (160 + n) := ⟨_, rfl⟩
    have hp : pick (tab.getD 2 []) n = [X] := by simp [tab, pick, fits, layRow, *]
    rw [hp]
    have HX := hid hX
    clear hp hX
    obtain ⟨N, hN⟩ : ∃ N : Int, N = (n : Int) := ⟨_, rfl⟩
    rw [← hN]
    have N0 : 0 ≤ N := by omega
    have N1 : N < 18446744073709551616 := by omega
    have i32 : N < 32 := by omega
    have G32 := hid h32
    clear h32
    have HN := hid hN
    have hnn := hid hn
    clear hN hn
    go_enter Tryd.func27, Tryd.ntmps27
    go_wp2_with fail
    have eN : (160 + N) = (((160 + n) : Nat) : Int) := by have := HN.out; push_cast; omega
    rw [eN]
    refine (rone_any (160 + n) (by have := G32.out; omega) _).mono ?_
    rintro e w1 ⟨rfl, b1⟩
    rw [← HX.out]
    go_wp2
    go_ret
    exact ⟨rfl, b1⟩
  · skip
    by_cases h256 : n < 256
    · have hp : pick (tab.getD 2 []) n = 217 :: be n 1 := by simp [tab, pick, fits, layRow, *]
      rw [hp]
      clear hp
      obtain ⟨N, hN⟩ : ∃ N : Int, N = (n : Int) := ⟨_, rfl⟩
      rw [← hN]
      have N0 : 0 ≤ N := by omega
      have N1 : N < 18446744073709551616 := by omega
      have i32 : (32 : Int) ≤ N := by omega
      have G32 := hid h32
      clear h32
      have i256 : N < 256 := by omega
      have G256 := hid h256
      clear h256
      have HN := hid hN
      have hnn := hid hn
      clear hN hn
      go_enter Tryd.func27, Tryd.ntmps27
      go_wp2_with fail
      rw [HN.out]
      refine (rbytes_any n 1 (by have := hnn.out; omega) (by omega) _).mono ?_
      rintro e w1 ⟨rfl, b1⟩
      have hbl : (be n 1).length ≤ 8 := by rw [be_len]; omega
      go_wp2
      go_ret
      exact ⟨congrArg (fun x => Ending.returned (Value.string x)) (str_app [217] (be n 1)), b1⟩
    · skip
      have hp : pick (tab.getD 2 []) n = 218 :: be n 2 := by simp [tab, pick, fits, layRow, *]
      rw [hp]
      clear hp
      obtain ⟨N, hN⟩ : ∃ N : Int, N = (n : Int) := ⟨_, rfl⟩
      rw [← hN]
      have N0 : 0 ≤ N := by omega
      have N1 : N < 18446744073709551616 := by omega
      have i32 : (32 : Int) ≤ N := by omega
      have G32 := hid h32
      clear h32
      have i256 : (256 : Int) ≤ N := by omega
      have G256 := hid h256
      clear h256
      have HN := hid hN
      have hnn := hid hn
      clear hN hn
      go_enter Tryd.func27, Tryd.ntmps27
      go_wp2_with fail
      rw [HN.out]
      refine (rbytes_any n 2 (by have := hnn.out; omega) (by omega) _).mono ?_
      rintro e w1 ⟨rfl, b1⟩
      have hbl : (be n 2).length ≤ 8 := by rw [be_len]; omega
      go_wp2
      go_ret
      exact ⟨congrArg (fun x => Ending.returned (Value.string x)) (str_app [218] (be n 2)), b1⟩
set_option maxRecDepth 100000 in
set_option maxHeartbeats 2000000 in
theorem rhead3_any (n : Nat) (hn : n < 65536) (w : World) : Calls Tryd.prog 27 #[.int .i64 3, .int .u64 (n : Int)] w fun e w' => e = .returned (.string ⟨(pick (tab.getD 3 []) n).toArray⟩) ∧ Below w.heap.size w w' := by
  by_cases h16 : n < 16
  · obtain ⟨X, hX⟩ : ∃ X, X = UInt8.ofNat (144 + n) := ⟨_, rfl⟩
    have hp : pick (tab.getD 3 []) n = [X] := by simp [tab, pick, fits, layRow, *]
    rw [hp]
    have HX := hid hX
    clear hp hX
    obtain ⟨N, hN⟩ : ∃ N : Int, N = (n : Int) := ⟨_, rfl⟩
    rw [← hN]
    have N0 : 0 ≤ N := by omega
    have N1 : N < 18446744073709551616 := by omega
    have i16 : N < 16 := by omega
    have G16 := hid h16
    clear h16
    have HN := hid hN
    have hnn := hid hn
    clear hN hn
    go_enter Tryd.func27, Tryd.ntmps27
    go_wp2_with fail
    have eN : (144 + N) = (((144 + n) : Nat) : Int) := by have := HN.out; push_cast; omega
    rw [eN]
    refine (rone_any (144 + n) (by have := G16.out; omega) _).mono ?_
    rintro e w1 ⟨rfl, b1⟩
    rw [← HX.out]
    go_wp2
    go_ret
    exact ⟨rfl, b1⟩
  · skip
    have hp : pick (tab.getD 3 []) n = 220 :: be n 2 := by simp [tab, pick, fits, layRow, *]
    rw [hp]
    clear hp
    obtain ⟨N, hN⟩ : ∃ N : Int, N = (n : Int) := ⟨_, rfl⟩
    rw [← hN]
    have N0 : 0 ≤ N := by omega
    have N1 : N < 18446744073709551616 := by omega
    have i16 : (16 : Int) ≤ N := by omega
    have G16 := hid h16
    clear h16
    have HN := hid hN
    have hnn := hid hn
    clear hN hn
    go_enter Tryd.func27, Tryd.ntmps27
    go_wp2_with fail
    rw [HN.out]
    refine (rbytes_any n 2 (by have := hnn.out; omega) (by omega) _).mono ?_
    rintro e w1 ⟨rfl, b1⟩
    have hbl : (be n 2).length ≤ 8 := by rw [be_len]; omega
    go_wp2
    go_ret
    exact ⟨congrArg (fun x => Ending.returned (Value.string x)) (str_app [220] (be n 2)), b1⟩
set_option maxRecDepth 100000 in
set_option maxHeartbeats 2000000 in
theorem rhead4_any (s : Int) (h1 : ¬ s = 1) (h2 : ¬ s = 2) (h3 : ¬ s = 3) (n : Nat) (hn : n < 65536) (w : World) : Calls Tryd.prog 27 #[.int .i64 s, .int .u64 (n : Int)] w fun e w' => e = .returned (.string ⟨(pick (tab.getD 4 []) n).toArray⟩) ∧ Below w.heap.size w w' := by
  by_cases h16 : n < 16
  · obtain ⟨X, hX⟩ : ∃ X, X = UInt8.ofNat (128 + n) := ⟨_, rfl⟩
    have hp : pick (tab.getD 4 []) n = [X] := by simp [tab, pick, fits, layRow, *]
    rw [hp]
    have HX := hid hX
    clear hp hX
    obtain ⟨N, hN⟩ : ∃ N : Int, N = (n : Int) := ⟨_, rfl⟩
    rw [← hN]
    have N0 : 0 ≤ N := by omega
    have N1 : N < 18446744073709551616 := by omega
    have i16 : N < 16 := by omega
    have G16 := hid h16
    clear h16
    have HN := hid hN
    have hnn := hid hn
    clear hN hn
    go_enter Tryd.func27, Tryd.ntmps27
    go_wp2_with fail
    have eN : (128 + N) = (((128 + n) : Nat) : Int) := by have := HN.out; push_cast; omega
    rw [eN]
    refine (rone_any (128 + n) (by have := G16.out; omega) _).mono ?_
    rintro e w1 ⟨rfl, b1⟩
    rw [← HX.out]
    go_wp2
    go_ret
    exact ⟨rfl, b1⟩
  · skip
    have hp : pick (tab.getD 4 []) n = 222 :: be n 2 := by simp [tab, pick, fits, layRow, *]
    rw [hp]
    clear hp
    obtain ⟨N, hN⟩ : ∃ N : Int, N = (n : Int) := ⟨_, rfl⟩
    rw [← hN]
    have N0 : 0 ≤ N := by omega
    have N1 : N < 18446744073709551616 := by omega
    have i16 : (16 : Int) ≤ N := by omega
    have G16 := hid h16
    clear h16
    have HN := hid hN
    have hnn := hid hn
    clear hN hn
    go_enter Tryd.func27, Tryd.ntmps27
    go_wp2_with fail
    rw [HN.out]
    refine (rbytes_any n 2 (by have := hnn.out; omega) (by omega) _).mono ?_
    rintro e w1 ⟨rfl, b1⟩
    have hbl : (be n 2).length ≤ 8 := by rw [be_len]; omega
    go_wp2
    go_ret
    exact ⟨congrArg (fun x => Ending.returned (Value.string x)) (str_app [222] (be n 2)), b1⟩
end Go.Proofs.YtcfohdkdppiekaaDoor
