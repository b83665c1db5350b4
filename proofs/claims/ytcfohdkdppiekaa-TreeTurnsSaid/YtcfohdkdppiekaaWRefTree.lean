/- The document's trees: contracts. -/
import Derived.Test.YtcfohdkdppiekaaWTree4
import Derived.Test.YtcfohdkdppiekaaTxtAt
import Derived.Test.YtcfohdkdppiekaaRowOps
namespace Go.Proofs.Ytcfohdkdppiekaa
open Go Go.RowKit Go.Proofs
attribute [local go_sem] Oper.semAt_some
theorem pow_int (d : Nat) : (2 : Int) ^ d = ((2 ^ d : Nat) : Int) := by simp
set_option maxRecDepth 100000 in
set_option maxHeartbeats 1000000 in
theorem rdepth8_any (n : Nat) (hn : n ≤ 65536) (w : World) : Calls Try.prog 141 #[.int .i64 (n : Int)] w fun e w' => e = .returned (.int .i64 (dp n : Nat)) ∧ w' = w := by
  have hn0 : ¬ (n : Int) < 0 := by omega
  have hn1 : ¬ (65536 : Int) < (n : Int) := by omega
  have hn2 : ¬ 65536 < n := by omega
  have hd16 := dp_16 n hn
  obtain ⟨D, hD⟩ : ∃ D, D = dp n := ⟨_, rfl⟩
  rw [← hD] at hd16
  have HI := hid fun (d : Nat) => dp_iff n d (by omega)
  rw [← hD] at HI ⊢
  clear hD
  go_enter Try.func141, Try.ntmps141
  go_wp2
  go_loop [3] (fun u => ∃ d : Nat, d ≤ D ∧ u = .int .i64 (d : Int)) (fun u => D - (intOf u).toNat)
  case atStart => exact ⟨0, Nat.zero_le _, rfl⟩
  case round =>
    obtain ⟨d, hd, rfl⟩ := hrel
    obtain ⟨P, hP⟩ : ∃ P, P = 2 ^ d := ⟨_, rfl⟩
    have hPI : (2 : Int) ^ d = (P : Int) := by rw [hP]; exact pow_int d
    have hP16 : P ≤ 65536 := by rw [hP]; exact pow_le16 (by omega)
    have hd16' : d ≤ 16 := by omega
    by_cases hlt : d < D
    · have hPn : (P : Int) < (n : Int) := by
        have := (HI.out d).2
        rw [← hP] at this
        omega
      have hPw : IntKind.i64.wrap (P : Int) = (P : Int) := by rw [IntKind.wrap_i64]; omega
      clear hP
      go_wp2
      go_round
      case rel => exact ⟨d + 1, by omega, by go_num⟩
      case measure => simp [intOf]; omega
    · obtain rfl : d = D := by omega
      have hPn : ¬ (P : Int) < (n : Int) := by
        have := (HI.out d).1 (Nat.le_refl _)
        rw [← hP] at this
        omega
      have hPw : IntKind.i64.wrap (P : Int) = (P : Int) := by rw [IntKind.wrap_i64]; omega
      clear hP
      go_wp2
      go_ret
      exact ⟨rfl, rfl⟩
set_option maxRecDepth 100000 in
set_option maxHeartbeats 1000000 in
theorem rturned_any (k d : Nat) (hd : d ≤ 16) (hk : k < 2 ^ d) (w : World) : Calls Try.prog 173 #[.int .u64 (k : Int), .int .i64 (d : Int)] w fun e w' => e = .returned (.int .u64 ((rv d k : Nat) : Int)) ∧ w' = w := by
  have hd0 : ¬ (d : Int) < 0 := by omega
  have hd1 : ¬ (16 : Int) < (d : Int) := by omega
  have hd2 : ¬ 16 < d := by omega
  obtain ⟨P, hP⟩ : ∃ P, P = 2 ^ d := ⟨_, rfl⟩
  have hPI : (2 : Int) ^ d = (P : Int) := by rw [hP]; exact pow_int d
  have hP16 : P ≤ 65536 := by rw [hP]; exact pow_le16 hd
  have hPw : IntKind.u64.wrap (P : Int) = (P : Int) := by rw [IntKind.wrap_u64]; omega
  rw [← hP] at hk
  have hkP : ¬ (P : Int) ≤ (k : Int) := by omega
  have hkP2 : ¬ P ≤ k := by omega
  have hk16 : k < 65536 := by omega
  clear hP
  go_enter Try.func173, Try.ntmps173
  go_wp2
  go_loop [0, 5, 6] (fun kk out i => ∃ j : Nat, j ≤ d ∧ i = .int .i64 (j : Int) ∧ out = .int .u64 ((rv j k : Nat) : Int) ∧ kk = .int .u64 ((k / 2 ^ j : Nat) : Int)) (fun _ _ i => d - (intOf i).toNat)
  case atStart => exact ⟨0, Nat.zero_le _, rfl, rfl, by rw [Nat.pow_zero, Nat.div_one]⟩
  case round =>
    obtain ⟨j, hj, rfl, rfl, rfl⟩ := hrel
    obtain ⟨x, hx⟩ : ∃ x, x = k / 2 ^ j := ⟨_, rfl⟩
    obtain ⟨y, hy⟩ : ∃ y, y = rv j k := ⟨_, rfl⟩
    have hx16 : x < 65536 := by rw [hx]; exact Nat.lt_of_le_of_lt (Nat.div_le_self _ _) hk16
    have hy16 : y < 65536 := by rw [hy]; exact Nat.lt_of_lt_of_le (rv_lt j k) (pow_le16 (by omega))
    have hs := rv_snoc j k
    have hq : k / 2 ^ (j + 1) = x / 2 := by rw [Nat.pow_succ, ← Nat.div_div_eq_div_mul, hx]
    rw [← hx, ← hy] at hs
    rw [← hx, ← hy]
    have HS := hid hs
    have HQ := hid hq
    clear hs hq
    by_cases hlt : j < d
    · have hlt' : (j : Int) < (d : Int) := by omega
      clear hx hy
      go_wp2
      go_round
      case rel => exact ⟨j + 1, by omega, by go_num, val_int (by rw [HS.out]; omega), val_int (by rw [HQ.out]; omega)⟩
      case measure => simp [intOf]; omega
    · obtain rfl : j = d := by omega
      go_wp2
      go_ret
      exact ⟨rfl, rfl⟩
theorem relement_at (k d : Nat) (hd : d ≤ 16) (hk : k < 2 ^ d) (w : World) : Calls Try.prog 165 #[.int .u64 (k : Int), .int .i64 (d : Int)] w fun e w' => e = .returned (.int .u64 ((rv d k : Nat) : Int)) ∧ w' = w := by
  go_enter Try.func165, Try.ntmps165
  go_wp2_with fail
  refine (rturned_any k d hd hk w).mono ?_
  rintro e w1 ⟨rfl, hw⟩
  subst w1
  go_wp2
  go_ret
  exact ⟨rfl, rfl⟩
/-- a tree of the document, in memory -/
def isRT (w : World) (g : Nat) (L : List (List UInt8)) : Prop := ∃ v, w.cell? ⟨g, 0, none⟩ = some v ∧ strsAt w w.heap.size v L
theorem isRT.keep {w w' : World} {g : Nat} {L : List (List UInt8)} (h : isRT w g L) (hb : Below w.heap.size w w') : isRT w' g L := by
  obtain ⟨v, h1, h2⟩ := h
  exact ⟨v, keep_cell hb h1, h2.keep' hb⟩
theorem rtdepth_any (g : Nat) (L : List (List UInt8)) (hL : L.length ≤ 65536) (w : World) (h : isRT w g L) : Calls Try.prog 92 #[.pointer (some ⟨g, 0, none⟩)] w fun e w' => e = .returned (.int .i64 (dp L.length : Nat)) ∧ w' = w := by
  obtain ⟨v, h1, ⟨A, c, rfl, hlc, hc, hx⟩, -⟩ := h
  clear hx
  go_enter Try.func92, Try.ntmps92
  go_wp2_with fail
  refine (rdepth8_any L.length hL w).mono ?_
  rintro e w1 ⟨rfl, hw⟩
  subst w1
  go_wp2
  go_ret
  exact ⟨rfl, rfl⟩
/-- a text is given -/
def Texts (w : World) (d : List UInt8) (e : Ending) (w' : World) : Prop := e = .returned (.string ⟨d.toArray⟩) ∧ Below w.heap.size w w'
set_option maxRecDepth 100000 in
set_option maxHeartbeats 1000000 in
theorem rdg_zero (g : Nat) (L : List (List UInt8)) (hL : L.length ≤ 65536) (ht : ∀ s ∈ L, s.length ≤ 1000000) (k : Nat) (w : World) (hk : k < 2 ^ dp L.length) (h : isRT w g L) :
    Calls Try.prog 140 #[.pointer (some ⟨g, 0, none⟩), .int .i64 0, .int .u64 (k : Int)] w (Texts w (td L (dp L.length) 0 k)) := by
  have hD16 := dp_16 _ hL
  have HG := hid h
  obtain ⟨v, h1, ⟨A, c, rfl, hlc, hc, hx⟩, -⟩ := h
  obtain ⟨D, hD⟩ : ∃ D, D = dp L.length := ⟨_, rfl⟩
  rw [← hD] at hD16 hk ⊢
  have HD := hid hD
  have HK := hid hk
  have HX := hid hx
  have HT := hid ht
  obtain ⟨i, hi⟩ : ∃ i, i = rv D k := ⟨_, rfl⟩
  have hi16 : i < 65536 := by rw [hi]; exact Nat.lt_of_lt_of_le (rv_lt D k) (pow_le16 hD16)
  have HI := hid hi
  clear hx ht hi hk hD
  by_cases hil : i < L.length
  · have hilI : ¬ (L.length : Int) ≤ (i : Int) := by omega
    have hilI2 : (i : Int) < (L.length : Int) := by omega
    obtain ⟨a, rfl, hab, hcell⟩ := HX.out i hil
    have hak : (a.add i).block < w.heap.size := by rw [block_add]; exact hab
    obtain ⟨s, hs⟩ : ∃ s, s = L.getD i [] := ⟨_, rfl⟩
    rw [← hs] at hcell
    have hsl : s.length ≤ 1000000 := by rw [hs]; exact HT.out _ (by rw [List.getD_eq_getElem?_getD, List.getElem?_eq_getElem hil]; exact List.getElem_mem hil)
    have HS := hid hs
    clear hs
    go_enter Try.func140, Try.ntmps140
    go_wp2_with fail
    refine (rtdepth_any g L hL w HG.out).mono ?_
    rintro e w1 ⟨rfl, hw⟩
    subst w1
    rw [← HD.out]
    go_wp2_with fail
    refine (relement_at k D hD16 HK.out w).mono ?_
    rintro e w1 ⟨rfl, hw⟩
    subst w1
    rw [← HI.out]
    go_wp2_with fail
    refine (refHash_any tLeaf [s] _ _ (strsAt.lit' w [s] (by simp; omega) (by simp) 9) (by decide) (by simp [fparts, b8_len]; omega) (by simp; omega)).mono ?_
    rintro e w1 ⟨rfl, b1⟩
    have B1 : Hid (Below w.heap.size w w1) := hid (((Below.refl w.heap.size w).alloc (Nat.le_refl _) _).trans (b1.mono (by simp)))
    have e1 : hsh tLeaf [s] = td L D 0 k := by rw [td_leafN L D k (by rw [← HI.out]; exact hil), ← HI.out, ← HS.out]; rfl
    rw [e1]
    clear b1 e1
    go_wp2
    go_ret
    exact ⟨rfl, B1.out⟩
  · have hilI : (L.length : Int) ≤ (i : Int) := by omega
    go_enter Try.func140, Try.ntmps140
    go_wp2_with fail
    refine (rtdepth_any g L hL w HG.out).mono ?_
    rintro e w1 ⟨rfl, hw⟩
    subst w1
    rw [← HD.out]
    go_wp2_with fail
    refine (relement_at k D hD16 HK.out w).mono ?_
    rintro e w1 ⟨rfl, hw⟩
    subst w1
    rw [← HI.out]
    go_wp2_with fail
    refine (refHash_any tNone [] _ _ (strsAt.nil _ _) (by decide) (by simp [fparts]) (by simp)).mono ?_
    rintro e w1 ⟨rfl, b1⟩
    have B1 := hid b1
    have e1 : hsh tNone [] = td L D 0 k := by rw [td_noneN L D k (by rw [← HI.out]; exact hil)]; rfl
    rw [e1]
    clear b1 e1
    go_wp2
    go_ret
    exact ⟨rfl, B1.out⟩
set_option maxRecDepth 100000 in
set_option maxHeartbeats 1000000 in
theorem rdg_any (g : Nat) (L : List (List UInt8)) (hL : L.length ≤ 65536) (ht : ∀ s ∈ L, s.length ≤ 1000000) : ∀ (l k : Nat) (w : World), l ≤ dp L.length → k < 2 ^ (dp L.length - l) → isRT w g L →
    Calls Try.prog 140 #[.pointer (some ⟨g, 0, none⟩), .int .i64 (l : Int), .int .u64 (k : Int)] w (Texts w (td L (dp L.length) l k)) := by
  have hD16 := dp_16 _ hL
  intro l
  induction l with
  | zero => exact fun k w _ hk h => rdg_zero g L hL ht k w (by simpa using hk) h
  | succ l ih =>
    intro k w hl hk h
    obtain ⟨D, hD⟩ : ∃ D, D = dp L.length := ⟨_, rfl⟩
    rw [← hD] at hD16 hk hl ih ⊢
    have hk16 : k < 65536 := Nat.lt_of_lt_of_le hk (pow_le16 (by omega))
    have e2 : 2 ^ (D - l) = 2 * 2 ^ (D - (l + 1)) := by rw [← Nat.pow_succ']; congr 1; omega
    obtain ⟨x, hx⟩ : ∃ x, x = 2 * k := ⟨_, rfl⟩
    obtain ⟨y, hy⟩ : ∃ y, y = 2 * k + 1 := ⟨_, rfl⟩
    have hxI : 2 * (k : Int) = (x : Int) := by omega
    have hyI : (x : Int) + 1 = (y : Int) := by omega
    have hx17 : x < 131072 := by omega
    have hlI : ((l + 1 : Nat) : Int) - 1 = (l : Int) := by omega
    have hl0 : (0 : Int) < ((l + 1 : Nat) : Int) := by omega
    have hl16 : l ≤ 16 := by omega
    have IHX := hid (fun (W : World) (hW : isRT W g L) => ih x W (by omega) (by omega) hW)
    have IHY := hid (fun (W : World) (hW : isRT W g L) => ih y W (by omega) (by omega) hW)
    have HN : Hid (td L D (l + 1) k = hsh tNode [td L D l x, td L D l y]) := hid (by rw [hx, hy]; rfl)
    have HG := hid h
    obtain ⟨n, hn⟩ : ∃ n : Int, n = ((l + 1 : Nat) : Int) := ⟨_, rfl⟩
    rw [← hn] at hlI hl0 ⊢
    have hn16 : n ≤ 17 := by omega
    obtain ⟨dx, hdx⟩ : ∃ d, d = td L D l x := ⟨_, rfl⟩
    obtain ⟨dy, hdy⟩ : ∃ d, d = td L D l y := ⟨_, rfl⟩
    have hxl : dx.length = 32 := by rw [hdx]; exact td_len _ _ _ _
    have hyl : dy.length = 32 := by rw [hdy]; exact td_len _ _ _ _
    rw [← hdx] at HN IHX
    rw [← hdy] at HN IHY
    rw [HN.out]
    have HXL := hid hxl
    have HYL := hid hyl
    clear ih hx hy e2 hk hl h hn hD hdx hdy hxl hyl HN
    go_enter Try.func140, Try.ntmps140
    go_wp2_with fail
    refine (IHX.out w HG.out).mono ?_
    rintro e w1 ⟨rfl, b1⟩
    have B1 := hid b1
    clear b1
    go_wp2_with fail
    refine (IHY.out w1 (HG.out.keep B1.out)).mono ?_
    rintro e w2 ⟨rfl, b2⟩
    have B2 := hid (below_all B1.out b2)
    clear b2
    go_wp2_with fail
    refine (refHash_any tNode [dx, dy] _ _ (strsAt.lit' w2 [dx, dy] (by have := HXL.out; have := HYL.out; simp; omega) (by simp) 9) (by decide) (by have := HXL.out; have := HYL.out; simp [fparts, b8_len]; omega) (by have := HXL.out; have := HYL.out; simp; omega)).mono ?_
    rintro e w3 ⟨rfl, b3⟩
    have B3 : Hid (Below w.heap.size w w3) := hid ((B2.out.alloc B2.out.size (.cells (scs [dx, dy]).toArray 9 (0, 0))).trans (b3.mono (by have := B2.out.size; simp; omega)))
    clear b3
    go_wp2
    go_ret
    exact ⟨rfl, B3.out⟩
theorem rtroot_any (g : Nat) (L : List (List UInt8)) (hL : L.length ≤ 65536) (ht : ∀ s ∈ L, s.length ≤ 1000000) (w : World) (h : isRT w g L) :
    Calls Try.prog 90 #[.pointer (some ⟨g, 0, none⟩)] w (Texts w (td L (dp L.length) (dp L.length) 0)) := by
  have HD := hid (rdg_any g L hL ht (dp L.length) 0 w (Nat.le_refl _) (Nat.two_pow_pos _) h)
  go_enter Try.func90, Try.ntmps90
  go_wp2_with fail
  refine (rtdepth_any g L hL w h).mono ?_
  rintro e w1 ⟨rfl, hw⟩
  subst w1
  go_wp2_with fail
  refine (show Calls Try.prog 140 #[.pointer (some ⟨g, 0, none⟩), .int .i64 (dp L.length : Nat), .int .u64 0] w _ from HD.out).mono ?_
  rintro e w1 ⟨rfl, b1⟩
  go_wp2
  go_ret
  exact ⟨rfl, b1⟩
set_option maxRecDepth 100000 in
set_option maxHeartbeats 1000000 in
theorem rtat_out (g : Nat) (L : List (List UInt8)) (hL : L.length ≤ 65536) (level : Int) (k : Nat) (hlv : -9223372036854775808 ≤ level ∧ level ≤ 9223372036854775807) (hk : k < 18446744073709551616) (hn : ¬ inTree L level k) (w : World) (h : isRT w g L) :
    Calls Try.prog 95 #[.pointer (some ⟨g, 0, none⟩), .int .i64 level, .int .u64 (k : Int)] w fun e w' => e = .returned (.tuple #[.string ⟨#[]⟩, .bool false]) ∧ w' = w := by
  have HDC := hid (rtdepth_any g L hL w h)
  obtain ⟨D, hD⟩ : ∃ D, D = dp L.length := ⟨_, rfl⟩
  rw [← hD] at HDC
  have hD16 : D ≤ 16 := by rw [hD]; exact dp_16 _ hL
  unfold inTree at hn
  rw [← hD] at hn
  clear hD h
  by_cases hl0 : level < 0
  · clear hn
    go_enter Try.func95, Try.ntmps95
    go_wp2_with fail
    refine HDC.out.mono ?_
    rintro e w1 ⟨rfl, hw⟩
    subst w1
    go_wp2
    go_ret2
    exact ⟨rfl, rfl⟩
  · by_cases hlD : (D : Int) < level
    · clear hn
      have hl1 : 0 ≤ level := by omega
      go_enter Try.func95, Try.ntmps95
      go_wp2_with fail
      refine HDC.out.mono ?_
      rintro e w1 ⟨rfl, hw⟩
      subst w1
      go_wp2
      go_ret2
      exact ⟨rfl, rfl⟩
    · obtain ⟨lv, rfl⟩ : ∃ lv : Nat, level = (lv : Int) := ⟨level.toNat, by omega⟩
      obtain ⟨m, hm⟩ : ∃ m, m = D - lv := ⟨_, rfl⟩
      have hmI : (D : Int) - (lv : Int) = (m : Int) := by omega
      have hm16 : m ≤ 16 := by omega
      obtain ⟨P, hP⟩ : ∃ P, P = 2 ^ m := ⟨_, rfl⟩
      have hPI : (2 : Int) ^ m = (P : Int) := by rw [hP]; exact pow_int m
      have hP16 : P ≤ 65536 := by rw [hP]; exact pow_le16 hm16
      have hPw : IntKind.u64.wrap (P : Int) = (P : Int) := by rw [IntKind.wrap_u64]; omega
      have hPk : (P : Int) ≤ (k : Int) := by
        have : ¬ k < P := fun e => hn ⟨by omega, by omega, by rw [Int.toNat_natCast, ← hm, ← hP]; exact e⟩
        omega
      clear hn hP hm
      go_enter Try.func95, Try.ntmps95
      go_wp2_with fail
      refine HDC.out.mono ?_
      rintro e w1 ⟨rfl, hw⟩
      subst w1
      go_wp2
      go_ret2
      exact ⟨rfl, rfl⟩
set_option maxRecDepth 100000 in
set_option maxHeartbeats 1000000 in
theorem rtat_in (g : Nat) (L : List (List UInt8)) (hL : L.length ≤ 65536) (ht : ∀ s ∈ L, s.length ≤ 1000000) (lv : Nat) (k : Nat) (hlD : lv ≤ dp L.length) (hkD : k < 2 ^ (dp L.length - lv)) (w : World) (h : isRT w g L) :
    Calls Try.prog 95 #[.pointer (some ⟨g, 0, none⟩), .int .i64 (lv : Int), .int .u64 (k : Int)] w fun e w' => e = .returned (.tuple #[.string ⟨(td L (dp L.length) lv k).toArray⟩, .bool true]) ∧ Below w.heap.size w w' := by
  have HDC := hid (rtdepth_any g L hL w h)
  have HDG := hid (rdg_any g L hL ht lv k w hlD hkD h)
  obtain ⟨D, hD⟩ : ∃ D, D = dp L.length := ⟨_, rfl⟩
  rw [← hD] at HDC HDG hlD hkD ⊢
  have hD16 : D ≤ 16 := by rw [hD]; exact dp_16 _ hL
  obtain ⟨m, hm⟩ : ∃ m, m = D - lv := ⟨_, rfl⟩
  rw [← hm] at hkD
  have hmI : (D : Int) - (lv : Int) = (m : Int) := by omega
  have hm16 : m ≤ 16 := by omega
  obtain ⟨P, hP⟩ : ∃ P, P = 2 ^ m := ⟨_, rfl⟩
  have hPI : (2 : Int) ^ m = (P : Int) := by rw [hP]; exact pow_int m
  have hP16 : P ≤ 65536 := by rw [hP]; exact pow_le16 hm16
  have hPw : IntKind.u64.wrap (P : Int) = (P : Int) := by rw [IntKind.wrap_u64]; omega
  have hPk : ¬ (P : Int) ≤ (k : Int) := by omega
  have hPk2 : ¬ P ≤ k := by omega
  have hd0 : ¬ ((lv : Int) < 0) := by omega
  have hd1 : ¬ ((D : Int) < (lv : Int)) := by omega
  have hd2 : ¬ (D < lv) := by omega
  clear hD hkD hP hm
  go_enter Try.func95, Try.ntmps95
  go_wp2_with fail
  refine HDC.out.mono ?_
  rintro e w1 ⟨rfl, hw⟩
  subst w1
  go_wp2_with fail
  refine HDG.out.mono ?_
  rintro e w1 ⟨rfl, b1⟩
  go_wp2
  go_ret2
  exact ⟨rfl, b1⟩
/-- whatever is asked -/
theorem rtat_any (g : Nat) (L : List (List UInt8)) (hL : L.length ≤ 65536) (ht : ∀ s ∈ L, s.length ≤ 1000000) (level : Int) (k : Nat) (hlv : -9223372036854775808 ≤ level ∧ level ≤ 9223372036854775807) (hk : k < 18446744073709551616) (w : World) (h : isRT w g L) :
    Calls Try.prog 95 #[.pointer (some ⟨g, 0, none⟩), .int .i64 level, .int .u64 (k : Int)] w fun e w' => e = .returned (.tuple #[.string ⟨(atOf L level k).toArray⟩, .bool (decide (inTree L level k))]) ∧ Below w.heap.size w w' := by
  by_cases hin : inTree L level k
  · rw [atOf_in hin, decide_eq_true hin]
    obtain ⟨h0, h1, h2⟩ := hin
    obtain ⟨lv, rfl⟩ : ∃ lv : Nat, level = (lv : Int) := ⟨level.toNat, by omega⟩
    exact rtat_in g L hL ht lv k (by omega) h2 w h
  · rw [atOf_out hin, decide_eq_false hin]
    refine (rtat_out g L hL level k hlv hk hin w h).mono ?_
    rintro e w' ⟨rfl, rfl⟩
    exact ⟨rfl, Below.refl _ _⟩
/-- a tree of the document is given, whose list is its own -/
def BuiltR (w : World) (L : List (List UInt8)) (e : Ending) (w' : World) : Prop := ∃ g v, e = .returned (.tuple #[.pointer (some ⟨g, 0, none⟩), .int .i64 0]) ∧ arr w' g 193 [v] ∧ ownS w' (g + 1) v L ∧ w.heap.size ≤ g ∧ Below w.heap.size w w'
set_option maxRecDepth 100000 in
set_option maxHeartbeats 1000000 in
theorem rtbuild_any (L : List (List UInt8)) (hL : L.length ≤ 65536) (v : Value) (w : World) (hv : strsAt w w.heap.size v L) : Calls Try.prog 88 #[v] w (BuiltR w L) := by
  have HV := hid hv
  obtain ⟨⟨A, c, rfl, hlc, hc, hx⟩, -⟩ := hv
  have hl0 : ¬ (65536 : Int) < (L.length : Int) := by omega
  have hl1 : ¬ 65536 < L.length := by omega
  clear hx
  obtain ⟨g, hg⟩ : ∃ g, g = w.heap.size := ⟨_, rfl⟩
  obtain ⟨w1, hw1⟩ : ∃ w1, w1 = w.alloc (.cells #[.slice none 0 0] 193) := ⟨_, rfl⟩
  have hb1 : Below w.heap.size w w1 := by rw [hw1]; exact (Below.refl _ _).alloc (Nat.le_refl _) _
  have ha1 : arr w1 g 193 [.slice none 0 0] := by rw [hw1]; exact arr.newAt _ _ [.slice none 0 0] _ hg
  have hs1 : w1.heap.size = g + 1 := by rw [hw1, hg]; simp
  have V1 := hid (HV.out.keep' hb1)
  have O1 := hid (ownS.nil w1 (g + 1))
  have B1 := hid hb1
  have A1 := hid ha1
  have S1 := hid hs1
  have HW1 := hid hw1
  have HG := hid hg
  clear hb1 ha1 hs1 hw1 hg
  go_enter Try.func88, Try.ntmps88
  go_wp2_with ((at_builtin; rw [← HW1.out, ← HG.out]; go_must (refine wpList_appendS rfl _ _ rfl (g + 1) _ _ [] L rfl O1.out _ rfl V1.out (by simp; omega) (by rw [S1.out]; exact Nat.le_refl _) ?_); intro v2 w2 ho2 hg2; rw [List.nil_append] at ho2; obtain ⟨A2, c2, rfl⟩ := row_form ho2; have O2 := hid ho2; have R2 := hid (arr_row A1.out O1.out hg2 (by decide)); have B2 := hid (B1.out.grown hg2 B1.out.size (fun k hk => by cases hk)); clear ho2 hg2; have c0 := R2.out.cell 0 _ rfl; have f0 := R2.out.free 0; have l0 := R2.out.lt))
  have O3 := hid (row_set O2.out R2.out (by decide) 0 (.slice A2 L.length c2))
  have A3 := hid (R2.out.set 0 (.slice A2 L.length c2))
  have B3 := hid (B2.out.setCell (p := ⟨g, 0, none⟩) (by rw [HG.out]; exact Nat.le_refl _) (.slice A2 L.length c2))
  go_ret2
  exact ⟨g, _, rfl, A3.out, O3.out, by rw [HG.out]; exact Nat.le_refl _, B3.out⟩
/-- a tree of the document is given -/
def BuiltRT (w : World) (L : List (List UInt8)) (e : Ending) (w' : World) : Prop := ∃ g, e = .returned (.tuple #[.pointer (some ⟨g, 0, none⟩), .int .i64 0]) ∧ isRT w' g L ∧ Below w.heap.size w w'
theorem rtbuild_rt (L : List (List UInt8)) (hL : L.length ≤ 65536) (ht : ∀ s ∈ L, s.length ≤ 1000000) (v : Value) (w : World) (hv : strsAt w w.heap.size v L) : Calls Try.prog 88 #[v] w (BuiltRT w L) := by
  refine (rtbuild_any L hL v w hv).mono ?_
  rintro e w' ⟨g, v', he, ha, ho, hg, hb⟩
  exact ⟨g, he, ⟨v', ha.cell 0 _ rfl, ho.strs fun s hs => by have := ht s hs; omega⟩, hb⟩
set_option maxRecDepth 100000 in
set_option maxHeartbeats 1000000 in
theorem rtwith_arg (g : Nat) (L : List (List UInt8)) (hL : L.length ≤ 65536) (i : Nat) (hi : L.length ≤ i) (hi2 : i < 18446744073709551616) (s : List UInt8) (w : World) (h : isRT w g L) :
    Calls Try.prog 98 #[.pointer (some ⟨g, 0, none⟩), .int .u64 (i : Int), .string ⟨s.toArray⟩] w fun e w' => e = .returned (.tuple #[.pointer none, .int .i64 2]) ∧ Below w.heap.size w w' := by
  obtain ⟨v, h1, ⟨A, c, rfl, hlc, hc, hx⟩, -⟩ := h
  have hiI : (L.length : Int) ≤ (i : Int) := by omega
  have hLw : IntKind.u64.wrap (L.length : Int) = (L.length : Int) := by rw [IntKind.wrap_u64]; omega
  clear hx
  go_enter Try.func98, Try.ntmps98
  go_wp2
  go_ret2
  exact ⟨rfl, Below.refl _ _⟩
set_option maxRecDepth 100000 in
set_option maxHeartbeats 1000000 in
theorem rtwith_any (g : Nat) (L : List (List UInt8)) (hL : L.length ≤ 65536) (ht : ∀ s ∈ L, s.length ≤ 1000000) (i : Nat) (hi : i < L.length) (s : List UInt8) (hs : s.length ≤ 1000000) (w : World) (h : isRT w g L) :
    Calls Try.prog 98 #[.pointer (some ⟨g, 0, none⟩), .int .u64 (i : Int), .string ⟨s.toArray⟩] w (BuiltRT w (L.set i s)) := by
  obtain ⟨v, h1, hv⟩ := h
  have HB := hid (rtbuild_any L hL v w hv)
  obtain ⟨⟨A, c, rfl, hlc, hc, hx⟩, -⟩ := hv
  have hiI : ¬ (L.length : Int) ≤ (i : Int) := by omega
  have hiI2 : (i : Int) < (L.length : Int) := by omega
  have hLw : IntKind.u64.wrap (L.length : Int) = (L.length : Int) := by rw [IntKind.wrap_u64]; omega
  have HT := hid ht
  clear hx ht
  go_enter Try.func98, Try.ntmps98
  go_wp2_with fail
  refine HB.out.mono ?_
  rintro e w1 ⟨u, v1, rfl, a1, o1, hu, b1⟩
  obtain ⟨b, cap, rfl, hub, t1⟩ := ownS_txt o1 (by omega)
  have hcap : L.length ≤ cap := t1.cap
  have c0 := a1.cell 0 _ rfl
  have l0 := a1.lt
  have c1 := t1.cells i hi
  have f1 := t1.free i
  have l1 := t1.lt
  have A1 := hid a1
  have T1 := hid t1
  have B1 := hid b1
  have HWB := hid (show w.heap.size ≤ b by omega)
  have HUB := hid (show u ≠ b by omega)
  clear a1 o1 t1 b1 hu hub h1
  go_wp2
  go_ret2
  have T2 := T1.out.set i hi s
  have A2 := A1.out.other ⟨b, i, none⟩ (by exact Ne.symm HUB.out) (.string ⟨s.toArray⟩)
  have B2 := B1.out.setCell (p := ⟨b, i, none⟩) HWB.out (.string ⟨s.toArray⟩)
  have hts : ∀ x ∈ L.set i s, x.length ≤ 9223372036854775807 := by
    intro x hx
    rcases List.mem_or_eq_of_mem_set hx with h | h
    · have := HT.out x h; omega
    · rw [h]; omega
  have S2 := T2.strs hts
  rw [List.length_set] at S2
  exact ⟨u, rfl, ⟨_, A2.cell 0 _ rfl, S2⟩, B2⟩
end Go.Proofs.Ytcfohdkdppiekaa
