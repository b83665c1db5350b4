/- Block 2048 of a seed's stream: its second number is not 2^64-1: reckoned by the kernel (printed by wip/streamblk.py). -/
import Derived.Test.YtcfohdkdppiekaaFastSha
import Derived.Test.YtcfohdkdppiekaaSpecStream
namespace Go.Proofs.Ytcfohdkdppiekaa
def abcSeed : List UInt8 := [97, 98, 99] ++ List.replicate 29 0
def abcBlk : List UInt8 := [6, 115, 116, 114, 101, 97, 109, 0, 0, 0, 0, 0, 0, 0, 32, 97, 98, 99, 0, 0, 0, 0, 0, 0, 0, 0, 0, 0, 0, 0, 0, 0, 0, 0, 0, 0, 0, 0, 0, 0, 0, 0, 0, 0, 0, 0, 0, 0, 0, 0, 0, 0, 0, 0, 8, 0, 0, 0, 0, 0, 0, 8, 0, 128]
def abcPad : List UInt8 := [0, 0, 0, 0, 0, 0, 0, 0, 0, 0, 0, 0, 0, 0, 0, 0, 0, 0, 0, 0, 0, 0, 0, 0, 0, 0, 0, 0, 0, 0, 0, 0, 0, 0, 0, 0, 0, 0, 0, 0, 0, 0, 0, 0, 0, 0, 0, 0, 0, 0, 0, 0, 0, 0, 0, 0, 0, 0, 0, 0, 0, 0, 1, 248]
def abcKw : List Nat := [1224582154, 3600331153, 3049323471, 3921017862, 2612642395, 1508970993, 2453635748, 2870763221, 3624381080, 310598401, 607225278, 1426881987, 1925078388, 2162080254, 2614888103, 3248746996, 5405791317, 5728351883, 1374266870, 2333143802, 2505758658, 3978281760, 5327990168, 3446743869, 5360424260, 4978780848, 3770044559, 5995020125, 5855419902, 7224333712, 2026127160, 1472055392, 976296035, 4496320319, 3238340345, 4786187339, 4957314497, 3029065969, 3783260996, 4002442384, 4115286627, 3336443148, 5099032046, 6241241829, 3774927899, 3641735102, 8236882078, 983871250, 4667969265, 2331119102, 3325826511, 3697177302, 3639582684, 1571519408, 5077415812, 4463049785, 2570243667, 3083962904, 5193203145, 4021446512, 6600563656, 3720820807, 6863116994, 3979846693]
def abcKwP : List Nat := [1116352408, 1899447441, 3049323471, 3921009573, 961987163, 1508970993, 2453635748, 2870763221, 3624381080, 310598401, 607225278, 1426881987, 1925078388, 2162078206, 2614888103, 3248223084, 3835390401, 4035004294, 264347078, 4362916485, 770255983, 1760055478, 1555082196, 4672035038, 2579779922, 2992046753, 5637388788, 4176973024, 5382315043, 6925414334, 3502816191, 3933470306, 3640586047, 4290098877, 4187969789, 3312321111, 5333707357, 2473617810, 3425674890, 5505292888, 6733276393, 6777768182, 4095710901, 7430633767, 6145092780, 6743228692, 6024480680, 565751968, 1997075033, 2547464582, 1640492978, 940650707, 1521501312, 2583790991, 4816682205, 3577412900, 4931251914, 4373953423, 6192831927, 6418902528, 3885647704, 5636078531, 5643892007, 5788218752]
theorem abcKw_eq : kws (sch abcBlk 48) = abcKw := by decide +kernel
theorem abcKwP_eq : kws (sch abcPad 48) = abcKwP := by decide +kernel
def okCD (a b c d e f g h : Nat) : Bool := !Nat.beq c 4294967295
theorem abc_chk : fblk abcKw (fblk abcKwP okCD) st0.a st0.b st0.c st0.d st0.e st0.f st0.g st0.h = true := by decide +kernel
def okSCD (s : St) : Bool := okCD s.a s.b s.c s.d s.e s.f s.g s.h
theorem abc_ok : okSCD (blk (blk st0 abcBlk) abcPad) = true := by
  have h2 := abc_chk
  unfold okSCD
  rw [fblk_eq _ abcBlk abcKw abcKw_eq st0 st0_ok] at h2
  simp only at h2
  rw [fblk_eq _ abcPad abcKwP abcKwP_eq _ (blk_ok _ _)] at h2
  exact h2
theorem abc_pad' (n : Nat) (hn : n < 1) : pad (frm0 tStream [abcSeed, b8 (2048 + n)]) = abcBlk ++ abcPad := by
  have h : ((List.range 1).all fun n => decide (pad (frm0 tStream [abcSeed, b8 (2048 + n)]) = abcBlk ++ abcPad)) = true := by decide +kernel
  exact of_decide_eq_true (List.all_eq_true.1 h n (List.mem_range.2 hn))
theorem abc_pad : pad (frm0 tStream [abcSeed, b8 2048]) = abcBlk ++ abcPad := abc_pad' 0 (Nat.zero_lt_one)
theorem sblk_abc : sblk abcSeed 2048 = (blk (blk st0 abcBlk) abcPad).bytes := by
  unfold sblk
  rw [hsh_ok ok_stream]
  unfold sha
  rw [abc_pad]
  have l1 : abcBlk.length = 64 := by decide +kernel
  have l2 : abcPad.length = 64 := by decide +kernel
  rw [List.length_append, l1, l2]
  show (blk (blk st0 (((abcBlk ++ abcPad).drop (64 * 0)).take 64)) (((abcBlk ++ abcPad).drop (64 * 1)).take 64)).bytes = _
  have e1 : ((abcBlk ++ abcPad).drop (64 * 0)).take 64 = abcBlk := by
    rw [Nat.mul_zero, List.drop_zero, List.take_append_of_le_length (by rw [l1]; omega), List.take_of_length_le (by rw [l1]; omega)]
  have e2 : ((abcBlk ++ abcPad).drop (64 * 1)).take 64 = abcPad := by
    rw [Nat.mul_one, ← l1, List.drop_left, l1, List.take_of_length_le (by rw [l2]; omega)]
  rw [e1, e2]
theorem su_abc : su abcSeed 65544 ≠ 18446744073709551615 := by
  obtain ⟨s, hs⟩ : ∃ s, s = blk (blk st0 abcBlk) abcPad := ⟨_, rfl⟩
  have hk : s.ok := by rw [hs]; exact blk_ok _ _
  have hb := abc_ok
  have hsb := sblk_abc
  rw [← hs] at hb hsb
  have hd : sbs abcSeed 65544 8 = (s.bytes.drop 8).take 8 := by
    rw [← hsb, ← sbs_block, sbs_drop _ _ _ _ (by omega), sbs_take _ _ _ _ (by omega)]
  have e : (s.bytes.drop 8).take 8 = b4 s.c ++ b4 s.d := rfl
  have e2 : b4 s.c ++ b4 s.d = b8 (s.c * 4294967296 + s.d) := by
    have hc := hk.c
    have hd := hk.d
    unfold b4 b8
    have h : ∀ x y : Nat, x % 256 = y % 256 → x.toUInt8 = y.toUInt8 := fun x y h => by
      apply UInt8.toNat_inj.1
      simpa using h
    simp only [List.cons_append, List.nil_append, List.cons.injEq, and_true]
    refine ⟨h _ _ ?_, h _ _ ?_, h _ _ ?_, h _ _ ?_, h _ _ ?_, h _ _ ?_, h _ _ ?_, h _ _ ?_⟩ <;> omega
  have hc := hk.c
  have hd2 := hk.d
  unfold su
  rw [hd, e, e2, numb_b8 _ (by omega)]
  intro h
  have h1 : s.c = 4294967295 := by omega
  unfold okSCD okCD at hb
  rw [h1] at hb
  exact absurd hb (by decide)
end Go.Proofs.Ytcfohdkdppiekaa
