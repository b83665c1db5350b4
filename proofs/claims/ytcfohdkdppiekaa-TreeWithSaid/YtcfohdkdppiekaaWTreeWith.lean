/- The law TreeWith: walk. -/
import Derived.Test.YtcfohdkdppiekaaWWorks9
import Derived.Test.YtcfohdkdppiekaaWRefTree
namespace Go.Proofs.Ytcfohdkdppiekaa
open Go Go.RowKit Go.Proofs
attribute [local go_sem] Oper.semAt_some
/-- a tree, and two of the list with another element -/
structure Three (w : World) (gt gu gv : Nat) (L M : List (List UInt8)) (W : World) : Prop where
  old : isTree W gt L
  new : isTree W gu M
  other : isTree W gv M
  below : Below w.heap.size w W
theorem Three.quiet {w W W' : World} {gt gu gv : Nat} {L M : List (List UInt8)} (h : Three w gt gu gv L M W) (hb : Below W.heap.size W W') : Three w gt gu gv L M W' := ⟨h.old.keep hb, h.new.keep hb, h.other.keep hb, below_all h.below hb⟩
set_option maxRecDepth 100000 in
set_option maxHeartbeats 2000000 in
theorem tw_any (L0 : List (List UInt8)) (v : Value) {w : World} (hv : strsAt w w.heap.size v L0) (ii : Int) (hii : 0 ≤ ii ∧ ii ≤ 18446744073709551615) (s0 : List UInt8) (hs0 : s0.length ≤ 9223372036854775807) :
    Calls Try.prog 27 #[v, .int .u64 ii, .string ⟨s0.toArray⟩] w fun e w' => e = .returned (.bool true) ∧ Below w.heap.size w w' := by
  obtain ⟨i, rfl⟩ : ∃ i : Nat, ii = (i : Int) := ⟨ii.toNat, by omega⟩
  have hi64 : i < 18446744073709551616 := by omega
  have HV := hid hv
  obtain ⟨⟨A, c, rfl, -⟩, -⟩ := hv
  obtain ⟨L, hL⟩ : ∃ L, L = cuts 100 60 L0 := ⟨_, rfl⟩
  have hl40 : L.length ≤ 100 := by rw [hL, cuts_len]; omega
  have hts : ∀ s ∈ L, s.length ≤ 1000000 := by rw [hL]; exact fun s hs => Nat.le_trans (cuts_text _ _ _ s hs) (by decide)
  have HF : Hid (∀ W, strsAt W W.heap.size (.slice A L0.length c) L0 → Calls Try.prog 86 #[.slice A L0.length c, .int .i64 100] W (GivesS W L)) := hid fun W hW => by rw [hL]; exact few9_any 100 (by decide) L0 _ W hW
  have HT := hid hts
  have hl65 : L.length ≤ 65536 := by omega
  have hD16 := dp_16 L.length hl65
  obtain ⟨q, hq, hqb, hqc⟩ : ∃ q : Nat, min (s0.length : Int) 60 = (q : Int) ∧ (q = 60 ∨ (q = s0.length ∧ s0.length ≤ 60)) ∧ q ≤ s0.length := by
    by_cases h3 : s0.length ≤ 60
    · exact ⟨s0.length, by omega, Or.inr ⟨rfl, h3⟩, Nat.le_refl _⟩
    · exact ⟨60, by omega, Or.inl rfl, by omega⟩
  have hqa : (if (60 : Int) < (s0.length : Int) then (60 : Int) else (s0.length : Int)) = (q : Int) := by
    rw [← hq]
    split <;> omega
  have HqB := hid hqb
  clear hqb
  have hcut := cut_text s0 60 q HqB.out
  obtain ⟨s, hs⟩ : ∃ s, s = s0.take 60 := ⟨_, rfl⟩
  have hsl : s.length ≤ 1000000 := by rw [hs, List.length_take]; omega
  rw [← hs] at hcut
  clear hL hts hii hs
  go_enter Try.func27, Try.ntmps27
  go_wp2_with fail
  refine (works9_any w).mono ?_
  rintro e w0 ⟨rfl, b0⟩
  have B0 := hid b0
  clear b0
  go_wp2_with fail
  refine (HF.out w0 (HV.out.keep' B0.out)).mono ?_
  rintro e w1 ⟨v1, rfl, o1, b1⟩
  obtain ⟨A1, c1, rfl⟩ := row_form o1
  have S1 := hid (o1.strs fun s hs => by have := HT.out s hs; omega)
  have B1 := hid (below_all B0.out b1)
  clear o1 b1 HF HV
  go_wp2_with fail
  refine (build_any L hl65 HT.out _ w1 S1.out).mono ?_
  rintro e w2 ⟨gt, rfl, t2, b2⟩
  have T2 := hid t2
  have S2 := hid (S1.out.keep' b2)
  have B2 := hid (below_all B1.out b2)
  clear t2 b2 S1 B1 B0
  obtain ⟨R, hR⟩ : ∃ R, R = td L (dp L.length) (dp L.length) 0 := ⟨_, rfl⟩
  have HRT : Hid (∀ W, isTree W gt L → Calls Try.prog 89 #[.pointer (some ⟨gt, 0, none⟩)] W fun e w' => e = .returned (.string ⟨R.toArray⟩) ∧ w' = W) := hid fun W h => by rw [hR]; exact troot_any gt L W h
  clear hR
  go_wp2_with fail
  refine (HRT.out w2 T2.out).mono ?_
  rintro e w5 ⟨rfl, h5⟩
  subst w5
  have hLw : IntKind.u64.wrap (L.length : Int) = (L.length : Int) := by rw [IntKind.wrap_u64]; omega
  go_wp2_with fail
  by_cases hiL : i < L.length
  · have hiI : ¬ (L.length : Int) ≤ (i : Int) := by omega
    have hiI2 : (i : Int) < (L.length : Int) := by omega
    refine (twith_any gt L hl65 i hiL s hsl w2 T2.out).mono ?_
    obtain ⟨M, hM⟩ : ∃ M, M = L.set i s := ⟨_, rfl⟩
    have hMl : M.length = L.length := by rw [hM, List.length_set]
    have hMt : ∀ x ∈ M, x.length ≤ 1000000 := by
      rw [hM]
      intro x hx
      rcases List.mem_or_eq_of_mem_set hx with h | h
      · exact HT.out x h
      · rw [h]; exact hsl
    rw [← hM]
    have HM := hid hM
    have HML := hid hMl
    have HMT := hid hMt
    clear hM hMl hMt
    rintro e w8 ⟨gu, rfl, u8, b8⟩
    have U8 := hid u8
    have T8 := hid (T2.out.keep b8)
    have S8 := hid (S2.out.keep' b8)
    have B8 := hid (below_all B2.out b8)
    clear u8 b8 T2 S2 B2
    have hal : Below w8.heap.size w8 (w8.alloc (.cells #[] 9)) := (Below.refl _ _).alloc (Nat.le_refl _) _
    have V9 := hid (S8.out.keep' hal)
    have C9 := hid hal
    have O9 := hid (ownS.lit w8 w8.heap.size [] (Nat.le_refl _) (by simp))
    clear hal
    go_wp2_with ((at_builtin; go_must (refine wpList_appendS rfl _ _ rfl w8.heap.size _ _ [] L rfl O9.out _ rfl V9.out (by simp; omega) (by simp) ?_); intro v10 w10 ho10 hg10; rw [List.nil_append] at ho10; obtain ⟨hb, hcp, rfl, hbb, t10⟩ := ownS_txt ho10 (by omega); have hcap := t10.cap; have cc := t10.cells i hiL; have fc := t10.free i; have lc := t10.lt; have HBB := hid hbb; have TT := hid t10; have C10 := hid (C9.out.grown hg10 C9.out.size (fun k hk => by have hk2 : some w8.heap.size = some k := hk; injection hk2 with hk3; omega)); clear hg10 t10 ho10 hbb))
    have S11 : Hid (strsAt (w10.setCell ⟨hb, i, none⟩ (.string ⟨s.toArray⟩)) (w10.setCell ⟨hb, i, none⟩ (.string ⟨s.toArray⟩)).heap.size (.slice (some ⟨hb, 0, none⟩) L.length hcp) M) := hid (by
      have := (TT.out.set i hiL s).strs (by rw [← HM.out]; exact fun x hx => by have := HMT.out x hx; omega)
      rw [← HM.out, HML.out] at this
      exact this)
    have C11 := hid (C10.out.setCell (p := ⟨hb, i, none⟩) HBB.out (.string ⟨s.toArray⟩))
    generalize w10.setCell ⟨hb, i, none⟩ (.string ⟨s.toArray⟩) = w11 at S11 C11 ⊢
    have B11 := hid (below_all B8.out C11.out)
    have T11 := hid (T8.out.keep C11.out)
    have U11 := hid (U8.out.keep C11.out)
    clear cc fc lc TT C10 C9 V9 O9 HBB C11 T8 U8 B8 S8
    have hMB := build_any M (by rw [HML.out]; exact hl65) HMT.out _ w11 S11.out
    have HMB := hid hMB
    clear hMB
    refine HMB.out.mono ?_
    rintro e w12 ⟨gv, rfl, v12, b12⟩
    have H12 := hid (Three.mk (T11.out.keep b12) (U11.out.keep b12) v12 (below_all B11.out b12))
    clear v12 b12 T11 U11 B11 HMB S11
    obtain ⟨Q, hQ⟩ : ∃ R, R = td M (dp M.length) (dp M.length) 0 := ⟨_, rfl⟩
    have HQU : Hid (∀ W, Three w gt gu gv L M W → Calls Try.prog 89 #[.pointer (some ⟨gu, 0, none⟩)] W fun e w' => e = .returned (.string ⟨Q.toArray⟩) ∧ w' = W) := hid fun W h => by rw [hQ]; exact troot_any gu M W h.new
    have HQV : Hid (∀ W, Three w gt gu gv L M W → Calls Try.prog 89 #[.pointer (some ⟨gv, 0, none⟩)] W fun e w' => e = .returned (.string ⟨Q.toArray⟩) ∧ w' = W) := hid fun W h => by rw [hQ]; exact troot_any gv M W h.other
    have HLU : Hid (∀ W, Three w gt gu gv L M W → Calls Try.prog 93 #[.pointer (some ⟨gu, 0, none⟩)] W fun e w' => e = .returned (.int .i64 (L.length : Nat)) ∧ w' = W) := hid fun W h => by have := tlen_any gu M W h.new; rwa [HML.out] at this
    have HDU : Hid (∀ W, Three w gt gu gv L M W → Calls Try.prog 91 #[.pointer (some ⟨gu, 0, none⟩)] W fun e w' => e = .returned (.int .i64 (dp L.length : Nat)) ∧ w' = W) := hid fun W h => by have := tdepth_any gu M W h.new; rwa [HML.out] at this
    have HDT : Hid (∀ W, Three w gt gu gv L M W → Calls Try.prog 91 #[.pointer (some ⟨gt, 0, none⟩)] W fun e w' => e = .returned (.int .i64 (dp L.length : Nat)) ∧ w' = W) := hid fun W h => tdepth_any gt L W h.old
    have hLD : L.length ≤ 2 ^ dp L.length := dp_pos _ hl65
    have HAT : Hid (∀ (W : World) (lv q : Nat), lv ≤ dp L.length → q < 2 ^ (dp L.length - lv) → Three w gt gu gv L M W → Calls Try.prog 94 #[.pointer (some ⟨gt, 0, none⟩), .int .i64 (lv : Int), .int .u64 (q : Int)] W fun e w' => e = .returned (.tuple #[.string ⟨(td L (dp L.length) lv q).toArray⟩, .bool true]) ∧ Below W.heap.size W w') := hid fun W lv q h1 h2 h => tat_in gt L hl65 lv q h1 h2 W h.old
    have HAU : Hid (∀ (W : World) (lv q : Nat), lv ≤ dp L.length → q < 2 ^ (dp L.length - lv) → Three w gt gu gv L M W → Calls Try.prog 94 #[.pointer (some ⟨gu, 0, none⟩), .int .i64 (lv : Int), .int .u64 (q : Int)] W fun e w' => e = .returned (.tuple #[.string ⟨(td M (dp L.length) lv q).toArray⟩, .bool true]) ∧ Below W.heap.size W w') := hid fun W lv q h1 h2 h => by have := tat_in gu M (by rw [HML.out]; exact hl65) lv q (by rw [HML.out]; exact h1) (by rw [HML.out]; exact h2) W h.new; rwa [HML.out] at this
    have HAV : Hid (∀ (W : World) (lv q : Nat), lv ≤ dp L.length → q < 2 ^ (dp L.length - lv) → Three w gt gu gv L M W → Calls Try.prog 94 #[.pointer (some ⟨gv, 0, none⟩), .int .i64 (lv : Int), .int .u64 (q : Int)] W fun e w' => e = .returned (.tuple #[.string ⟨(td M (dp L.length) lv q).toArray⟩, .bool true]) ∧ Below W.heap.size W w') := hid fun W lv q h1 h2 h => by have := tat_in gv M (by rw [HML.out]; exact hl65) lv q (by rw [HML.out]; exact h1) (by rw [HML.out]; exact h2) W h.other; rwa [HML.out] at this
    have HOFF : Hid (∀ lv q : Nat, lv ≤ dp L.length → q < 2 ^ (dp L.length - lv) → q ≠ rv (dp L.length) i / 2 ^ lv → td M (dp L.length) lv q = td L (dp L.length) lv q) := hid fun lv q h1 h2 h3 => by rw [HM.out]; exact td_off L s i _ hiL hLD lv q h1 h2 h3
    have HLF : Hid (∀ W, Calls Try.prog 101 #[.int .u64 (i : Int), .int .i64 (dp L.length : Nat)] W fun e w' => e = .returned (.int .u64 ((rv (dp L.length) i : Nat) : Int)) ∧ w' = W) := hid fun W => leaf_at i _ hD16 (by omega) W
    have hrvl := rv_lt (dp L.length) i
    obtain ⟨D, hD⟩ : ∃ D, D = dp L.length := ⟨_, rfl⟩
    rw [← hD] at hD16 HDU HDT HAT HAU HAV HOFF HLF hrvl
    obtain ⟨K, hK⟩ : ∃ K, K = rv D i := ⟨_, rfl⟩
    rw [← hK] at HOFF HLF hrvl
    have hK16 : K < 65536 := Nat.lt_of_lt_of_le hrvl (pow_le16 hD16)
    clear hQ hLD hD hK hrvl
    go_wp2_with fail
    refine (HQU.out w12 H12.out).mono ?_
    rintro e w5 ⟨rfl, h5⟩
    subst w5
    go_wp2_with fail
    refine (HQV.out w12 H12.out).mono ?_
    rintro e w5 ⟨rfl, h5⟩
    subst w5
    go_wp2_with fail
    refine (HLU.out w12 H12.out).mono ?_
    rintro e w5 ⟨rfl, h5⟩
    subst w5
    go_wp2_with fail
    refine (HDU.out w12 H12.out).mono ?_
    rintro e w5 ⟨rfl, h5⟩
    subst w5
    go_wp2_with fail
    refine (HDT.out w12 H12.out).mono ?_
    rintro e w5 ⟨rfl, h5⟩
    subst w5
    go_wp2_with fail
    refine (HRT.out w12 H12.out.old).mono ?_
    rintro e w5 ⟨rfl, h5⟩
    subst w5
    go_wp2_with fail
    refine (HDT.out w12 H12.out).mono ?_
    rintro e w5 ⟨rfl, h5⟩
    subst w5
    go_wp2_with fail
    refine (HLF.out w12).mono ?_
    rintro e w5 ⟨rfl, h5⟩
    subst w5
    go_wp2_with fail
    go_loopw [16, 17] (fun way n_ wr => ∃ n : Nat, n ≤ D + 1 ∧ n_ = .int .i64 (n : Int) ∧ way = .int .u64 ((K / 2 ^ n : Nat) : Int) ∧ Three w gt gu gv L M wr) (fun _ n_ _ => D + 1 - (intOf n_).toNat)
    case atStart => exact ⟨0, by omega, rfl, by rw [Nat.pow_zero, Nat.div_one], H12.out⟩
    case round =>
      obtain ⟨n, hn, rfl, rfl, hb⟩ := hrel
      have HB := hid hb
      clear hb
      obtain ⟨y, hy⟩ : ∃ y, y = K / 2 ^ n := ⟨_, rfl⟩
      have hy16 : y < 65536 := by rw [hy]; exact Nat.lt_of_le_of_lt (Nat.div_le_self _ _) hK16
      have hyn : K / 2 ^ (n + 1) = y / 2 := by rw [Nat.pow_succ, ← Nat.div_div_eq_div_mul, hy]
      rw [← hy]
      have HYN := hid hyn
      have HY := hid hy
      clear hyn hy
      by_cases hnD : n ≤ D
      · have hnI : (n : Int) ≤ (D : Int) := by omega
        obtain ⟨m, hm⟩ : ∃ m, m = D - n := ⟨_, rfl⟩
        have hmI : (D : Int) - (n : Int) = (m : Int) := by omega
        have hm16 : m ≤ 16 := by omega
        obtain ⟨P, hP⟩ : ∃ P, P = 2 ^ m := ⟨_, rfl⟩
        have hPI : (2 : Int) ^ m = (P : Int) := by rw [hP]; exact pow_int m
        have hP16 : P ≤ 65536 := by rw [hP]; exact pow_le16 hm16
        have hPw : IntKind.u64.wrap (P : Int) = (P : Int) := by rw [IntKind.wrap_u64]; omega
        have HP : Hid (P = 2 ^ (D - n)) := hid (by rw [hP, hm])
        clear hP hm
        go_wp2_with fail
        go_loopw [18] (fun j wq => ∃ r : Nat, r ≤ P ∧ j = .int .u64 (r : Int) ∧ Three w gt gu gv L M wq) (fun j _ => P - (intOf j).toNat)
        case atStart => exact ⟨0, by omega, rfl, HB.out⟩
        case round =>
          obtain ⟨r, hr, rfl, hb⟩ := hrel
          have HQ := hid hb
          clear hb
          by_cases hrP : r < P
          · have hrI : (r : Int) < (P : Int) := by omega
            obtain ⟨a, ha⟩ : ∃ a, a = td L D n r := ⟨_, rfl⟩
            obtain ⟨b, hb⟩ : ∃ b, b = td M D n r := ⟨_, rfl⟩
            have HA : Hid (∀ W, Three w gt gu gv L M W → Calls Try.prog 94 #[.pointer (some ⟨gt, 0, none⟩), .int .i64 (n : Int), .int .u64 (r : Int)] W fun e w' => e = .returned (.tuple #[.string ⟨a.toArray⟩, .bool true]) ∧ Below W.heap.size W w') := hid fun W hW => by rw [ha]; exact HAT.out W n r hnD (by rw [← HP.out]; exact hrP) hW
            have HU : Hid (∀ W, Three w gt gu gv L M W → Calls Try.prog 94 #[.pointer (some ⟨gu, 0, none⟩), .int .i64 (n : Int), .int .u64 (r : Int)] W fun e w' => e = .returned (.tuple #[.string ⟨b.toArray⟩, .bool true]) ∧ Below W.heap.size W w') := hid fun W hW => by rw [hb]; exact HAU.out W n r hnD (by rw [← HP.out]; exact hrP) hW
            have HVV : Hid (∀ W, Three w gt gu gv L M W → Calls Try.prog 94 #[.pointer (some ⟨gv, 0, none⟩), .int .i64 (n : Int), .int .u64 (r : Int)] W fun e w' => e = .returned (.tuple #[.string ⟨b.toArray⟩, .bool true]) ∧ Below W.heap.size W w') := hid fun W hW => by rw [hb]; exact HAV.out W n r hnD (by rw [← HP.out]; exact hrP) hW
            have HE : Hid (r ≠ y → b = a) := hid fun h => by rw [ha, hb]; exact HOFF.out n r hnD (by rw [← HP.out]; exact hrP) (by rw [← HY.out]; exact h)
            clear ha hb
            by_cases hry : r = y
            · subst hry
              go_wp2_with fail
              refine (HA.out wr HQ.out).mono ?_
              rintro e w13 ⟨rfl, b13⟩
              have H13 := hid (HQ.out.quiet b13)
              clear b13 HQ
              go_wp2_with fail
              refine (HU.out w13 H13.out).mono ?_
              rintro e w14 ⟨rfl, b14⟩
              have H14 := hid (H13.out.quiet b14)
              clear b14 H13
              go_wp2_with fail
              refine (HVV.out w14 H14.out).mono ?_
              rintro e w15 ⟨rfl, b15⟩
              have H15 := hid (H14.out.quiet b15)
              clear b15 H14
              go_wp2
              go_roundw
              case rel => exact ⟨r + 1, by omega, by go_num, H15.out⟩
              case measure => simp [intOf]; omega
            · have hryI : ¬ (r : Int) = (y : Int) := by omega
              have e := HE.out hry
              subst e
              go_wp2_with fail
              refine (HA.out wr HQ.out).mono ?_
              rintro e w13 ⟨rfl, b13⟩
              have H13 := hid (HQ.out.quiet b13)
              clear b13 HQ
              go_wp2_with fail
              refine (HU.out w13 H13.out).mono ?_
              rintro e w14 ⟨rfl, b14⟩
              have H14 := hid (H13.out.quiet b14)
              clear b14 H13
              go_wp2_with fail
              refine (HVV.out w14 H14.out).mono ?_
              rintro e w15 ⟨rfl, b15⟩
              have H15 := hid (H14.out.quiet b15)
              clear b15 H14
              go_wp2
              go_roundw
              case rel => exact ⟨r + 1, by omega, by go_num, H15.out⟩
              case measure => simp [intOf]; omega
          · have hrI : ¬ (r : Int) < (P : Int) := by omega
            go_wp2_with fail
            refine (parent_at y wr).mono ?_
            rintro e w13 ⟨rfl, h13⟩
            subst w13
            go_wp2
            go_roundw
            case rel => exact ⟨n + 1, by omega, by go_num, val_int (by rw [HYN.out]; omega), HQ.out⟩
            case measure => simp [intOf]; omega
      · have hnI : ¬ (n : Int) ≤ (D : Int) := by omega
        go_wp2
        go_ret
        exact ⟨rfl, HB.out.below⟩
  · have hiI : (L.length : Int) ≤ (i : Int) := by omega
    refine (twith_arg gt L hl65 i (by omega) hi64 s w2 T2.out).mono ?_
    rintro e w8 ⟨rfl, b8⟩
    have B8 := hid (below_all B2.out b8)
    clear b8
    go_wp2
    go_ret
    exact ⟨rfl, B8.out⟩
end Go.Proofs.Ytcfohdkdppiekaa
