/- The law TreeNodes: walk. -/
import Derived.Test.YtcfohdkdppiekaaWWorks9
import Derived.Test.YtcfohdkdppiekaaWRefTree2
namespace Go.Proofs.Ytcfohdkdppiekaa
open Go Go.RowKit Go.Proofs
attribute [local go_sem] Oper.semAt_some
/-- a tree of a list, and the list -/
structure Alone (w : World) (gt : Nat) (v : Value) (L : List (List UInt8)) (W : World) : Prop where
  tree : isTree W gt L
  str : strsAt W W.heap.size v L
  below : Below w.heap.size w W
theorem Alone.quiet {w W W' : World} {gt : Nat} {v : Value} {L : List (List UInt8)} (h : Alone w gt v L W) (hb : Below W.heap.size W W') : Alone w gt v L W' := ⟨h.tree.keep hb, h.str.keep' hb, below_all h.below hb⟩
set_option maxRecDepth 100000 in
set_option maxHeartbeats 2000000 in
theorem nodes_any (L0 : List (List UInt8)) (v : Value) {w : World} (hv : strsAt w w.heap.size v L0) :
    Calls Try.prog 25 #[v] w fun e w' => e = .returned (.bool true) ∧ Below w.heap.size w w' := by
  have HV := hid hv
  obtain ⟨⟨A, c, rfl, -⟩, -⟩ := hv
  obtain ⟨L, hL⟩ : ∃ L, L = cuts 300 60 L0 := ⟨_, rfl⟩
  have hl40 : L.length ≤ 300 := by rw [hL, cuts_len]; omega
  have hts : ∀ s ∈ L, s.length ≤ 1000000 := by rw [hL]; exact fun s hs => Nat.le_trans (cuts_text _ _ _ s hs) (by decide)
  have HF : Hid (∀ W, strsAt W W.heap.size (.slice A L0.length c) L0 → Calls Try.prog 86 #[.slice A L0.length c, .int .i64 300] W (GivesS W L)) := hid fun W hW => by rw [hL]; exact few9_any 300 (by decide) L0 _ W hW
  have HT := hid hts
  have hl65 : L.length ≤ 65536 := by omega
  have hD16 := dp_16 L.length hl65
  clear hL hts
  go_enter Try.func25, Try.ntmps25
  go_wp2_with fail
  refine (works9_any w).mono ?_
  rintro e w0 ⟨rfl, b0⟩
  have B0 := hid b0
  clear b0
  go_wp2_with fail
  refine (HF.out w0 (HV.out.keep' B0.out)).mono ?_
  rintro e w1 ⟨v1, rfl, o1, b1⟩
  obtain ⟨A1, c1, rfl⟩ := row_form o1
  have S1 := hid (o1.strs fun s hs => by have := HT.out s hs; omega)
  have B1 := hid (below_all B0.out b1)
  clear o1 b1 HF
  go_wp2_with fail
  refine (build_any L hl65 HT.out _ w1 S1.out).mono ?_
  rintro e w2 ⟨gt, rfl, t2, b2⟩
  have H2 := hid (Alone.mk t2 (S1.out.keep' b2) (below_all B1.out b2))
  clear t2 b2 S1 B1
  go_wp2_with fail
  refine (tlen_any gt L w2 H2.out.tree).mono ?_
  rintro e w5 ⟨rfl, h5⟩
  subst w5
  go_wp2_with fail
  refine (tdepth_any gt L w2 H2.out.tree).mono ?_
  rintro e w5 ⟨rfl, h5⟩
  subst w5
  go_wp2_with fail
  refine (depth_any L.length hl65 w2).mono ?_
  rintro e w5 ⟨rfl, h5⟩
  subst w5
  go_wp2_with fail
  refine (tdepth_any gt L w2 H2.out.tree).mono ?_
  rintro e w5 ⟨rfl, h5⟩
  subst w5
  have HAT : Hid (∀ (W : World) (lv q : Nat), lv ≤ dp L.length → q < 2 ^ (dp L.length - lv) → Alone w gt (.slice A1 L.length c1) L W → Calls Try.prog 94 #[.pointer (some ⟨gt, 0, none⟩), .int .i64 (lv : Int), .int .u64 (q : Int)] W fun e w' => e = .returned (.tuple #[.string ⟨(td L (dp L.length) lv q).toArray⟩, .bool true]) ∧ Below W.heap.size W w') := hid fun W lv q h1 h2 h => tat_in gt L hl65 lv q h1 h2 W h.tree
  have HNO : Hid (∀ (W : World) (lv q : Nat), lv ≤ dp L.length → q = 2 ^ (dp L.length - lv) → Alone w gt (.slice A1 L.length c1) L W → Calls Try.prog 94 #[.pointer (some ⟨gt, 0, none⟩), .int .i64 (lv : Int), .int .u64 (q : Int)] W fun e w' => e = .returned (.tuple #[.string ⟨#[]⟩, .bool false]) ∧ w' = W) := hid fun W lv q h1 h2 h => tat_out gt L hl65 lv q (by omega) (by have := pow_le16 (n := dp L.length - lv) (by omega); omega) (by rintro ⟨-, -, h3⟩; rw [Int.toNat_natCast] at h3; omega) W h.tree
  have HRT : Hid (∀ W, Alone w gt (.slice A1 L.length c1) L W → Calls Try.prog 89 #[.pointer (some ⟨gt, 0, none⟩)] W fun e w' => e = .returned (.string ⟨(td L (dp L.length) (dp L.length) 0).toArray⟩) ∧ w' = W) := hid fun W h => troot_any gt L W h.tree
  obtain ⟨D, hD⟩ : ∃ D, D = dp L.length := ⟨_, rfl⟩
  rw [← hD] at hD16 HAT HNO HRT ⊢
  clear hD HV B0
  obtain ⟨nd, hnd⟩ : ∃ x, x = noned := ⟨_, rfl⟩
  have HN : Hid (∀ W, Calls Try.prog 42 #[.string ⟨#[110, 111, 110, 101]⟩, .slice none 0 0] W fun e w' => e = .returned (.string ⟨nd.toArray⟩) ∧ Below W.heap.size W w') := hid fun W => by rw [hnd]; exact hash_any tNone [] _ W (strsAt.nil _ _) (by decide) (by simp [fparts]) (by simp)
  have HND := hid hnd
  clear hnd
  go_wp2_with fail
  go_loopw [6] (fun i wr => ∃ n : Nat, n ≤ D + 1 ∧ i = .int .i64 (n : Int) ∧ Alone w gt (.slice A1 L.length c1) L wr) (fun i _ => D + 1 - (intOf i).toNat)
  case atStart => exact ⟨0, by omega, rfl, H2.out⟩
  case round =>
    obtain ⟨n, hn, rfl, hb⟩ := hrel
    have HB := hid hb
    clear hb
    by_cases hnD : n ≤ D
    · have hnI : (n : Int) ≤ (D : Int) := by omega
      obtain ⟨m, hm⟩ : ∃ m, m = D - n := ⟨_, rfl⟩
      have hmI : (D : Int) - (n : Int) = (m : Int) := by omega
      have hm16 : m ≤ 16 := by omega
      obtain ⟨P, hP⟩ : ∃ P, P = 2 ^ m := ⟨_, rfl⟩
      have hPI : (2 : Int) ^ m = (P : Int) := by rw [hP]; exact pow_int m
      have hP16 : P ≤ 65536 := by rw [hP]; exact pow_le16 hm16
      have hPw : IntKind.u64.wrap (P : Int) = (P : Int) := by rw [IntKind.wrap_u64]; omega
      have HP : Hid (P = 2 ^ (D - n)) := hid (by rw [hP, hm])
      clear hP hm
      go_wp2_with fail
      go_loopw [7] (fun j wq => ∃ q : Nat, q ≤ P ∧ j = .int .u64 (q : Int) ∧ Alone w gt (.slice A1 L.length c1) L wq) (fun j _ => P - (intOf j).toNat)
      case atStart => exact ⟨0, by omega, rfl, HB.out⟩
      case round =>
        obtain ⟨q, hq, rfl, hb⟩ := hrel
        have HQ := hid hb
        clear hb
        by_cases hqP : q < P
        · have hqI : (q : Int) < (P : Int) := by omega
          obtain ⟨y, hy⟩ : ∃ y, y = td L D n q := ⟨_, rfl⟩
          have HY : Hid (∀ W, Alone w gt (.slice A1 L.length c1) L W → Calls Try.prog 94 #[.pointer (some ⟨gt, 0, none⟩), .int .i64 (n : Int), .int .u64 (q : Int)] W fun e w' => e = .returned (.tuple #[.string ⟨y.toArray⟩, .bool true]) ∧ Below W.heap.size W w') := hid fun W hW => by rw [hy]; exact HAT.out W n q hnD (by rw [← HP.out]; exact hqP) hW
          go_wp2_with fail
          refine (HN.out wr).mono ?_
          rintro e w6 ⟨rfl, b6⟩
          have H6 := hid (HQ.out.quiet b6)
          clear b6 HQ
          cases n with
          | zero =>
            obtain ⟨nI, hnI2⟩ : ∃ n : Int, n = ((0 : Nat) : Int) := ⟨_, rfl⟩
            have hnI0 : ¬ (0 : Int) < nI := by omega
            have HNI := hid hnI2
            rw [← hnI2] at hmI HY ⊢
            clear hnI2 hnI
            obtain ⟨i, hi⟩ : ∃ i, i = rv D q := ⟨_, rfl⟩
            have hi16 : i < 65536 := by rw [hi]; exact Nat.lt_of_lt_of_le (rv_lt D q) (pow_le16 hD16)
            have HEL : Hid (∀ W, Calls Try.prog 100 #[.int .u64 (q : Int), .int .i64 (D : Int)] W fun e w' => e = .returned (.int .u64 (i : Int)) ∧ w' = W) := hid fun W => by rw [hi]; exact element_at q D hD16 (by have := HP.out; rw [Nat.sub_zero] at this; omega) W
            by_cases hil : i < L.length
            · have hilI : (i : Int) < (L.length : Int) := by omega
              have hLw : IntKind.u64.wrap (L.length : Int) = (L.length : Int) := by rw [IntKind.wrap_u64]; omega
              obtain ⟨⟨A', c', hA, hlc, hc, hx⟩, -⟩ := H6.out.str
              obtain ⟨a, hAa, hab, hcell⟩ := hx i hil
              injection hA with hA1 hA2 hA3
              rw [hAa] at hA1
              subst hA1
              have hak : (a.add i).block < w6.heap.size := by rw [block_add]; exact hab
              obtain ⟨s, hs⟩ : ∃ s, s = L.getD i [] := ⟨_, rfl⟩
              rw [← hs] at hcell
              have hsl : s.length ≤ 1000000 := by rw [hs]; exact HT.out _ (by rw [List.getD_eq_getElem?_getD, List.getElem?_eq_getElem hil]; exact List.getElem_mem hil)
              have HS : Hid (∀ W, Calls Try.prog 42 #[.string ⟨#[108, 101, 97, 102]⟩, .slice (some ⟨W.heap.size, 0, none⟩) 1 1] (W.alloc (.cells #[.string ⟨s.toArray⟩] 9 (0, 0))) fun e w' => e = .returned (.string ⟨y.toArray⟩) ∧ Below W.heap.size W w') := hid fun W => by
                have e : y = leafd s := by rw [hy, td_leafN L D q (by rw [← hi]; exact hil), ← hi, ← hs]
                rw [e]; exact hlit_any tLeaf [s] (by decide) (by simp; omega) (by simp) W
              clear hi hs hy hx hA2 hA3 hlc hc hAa
              go_wp2_with fail
              refine (HEL.out w6).mono ?_
              rintro e w7 ⟨rfl, h7⟩
              subst w7
              go_wp2_with fail
              refine (HS.out w6).mono ?_
              rintro e w7 ⟨rfl, b7⟩
              have H7 := hid (H6.out.quiet b7)
              clear b7 H6 hcell hak hab
              go_wp2_with fail
              refine (HY.out w7 H7.out).mono ?_
              rintro e w8 ⟨rfl, b8⟩
              have H8 := hid (H7.out.quiet b8)
              clear b8 H7
              go_wp2
              rw [HNI.out]
              go_roundw
              case rel => exact ⟨q + 1, by omega, by go_num, H8.out⟩
              case measure => simp [intOf]; omega
            · have hilI : ¬ (i : Int) < (L.length : Int) := by omega
              have hLw : IntKind.u64.wrap (L.length : Int) = (L.length : Int) := by rw [IntKind.wrap_u64]; omega
              have e : y = nd := by rw [hy, td_noneN L D q (by rw [← hi]; exact hil), HND.out]
              rw [e] at HY
              clear hi hy e
              go_wp2_with fail
              refine (HEL.out w6).mono ?_
              rintro e w7 ⟨rfl, h7⟩
              subst w7
              go_wp2_with fail
              refine (HY.out w6 H6.out).mono ?_
              rintro e w8 ⟨rfl, b8⟩
              have H8 := hid (H6.out.quiet b8)
              clear b8 H6
              go_wp2
              rw [HNI.out]
              go_roundw
              case rel => exact ⟨q + 1, by omega, by go_num, H8.out⟩
              case measure => simp [intOf]; omega
          | succ l =>
            have hl16 : l ≤ 16 := by omega
            have hlI : ((l + 1 : Nat) : Int) - 1 = (l : Int) := by omega
            have hl0 : (0 : Int) < ((l + 1 : Nat) : Int) := by omega
            obtain ⟨x, hx⟩ : ∃ x, x = 2 * q := ⟨_, rfl⟩
            obtain ⟨z, hz⟩ : ∃ z, z = 2 * q + 1 := ⟨_, rfl⟩
            have hxI : 2 * (q : Int) = (x : Int) := by omega
            have hzI : (x : Int) + 1 = (z : Int) := by omega
            have hx17 : x < 131072 := by omega
            have e2 : 2 ^ (D - l) = 2 * P := by rw [HP.out, ← Nat.pow_succ']; congr 1; omega
            obtain ⟨a, ha⟩ : ∃ a, a = td L D l x := ⟨_, rfl⟩
            obtain ⟨b, hb⟩ : ∃ b, b = td L D l z := ⟨_, rfl⟩
            have hal : a.length = 32 := by rw [ha]; exact td_len _ _ _ _
            have hbl : b.length = 32 := by rw [hb]; exact td_len _ _ _ _
            have HA : Hid (∀ W, Alone w gt (.slice A1 L.length c1) L W → Calls Try.prog 94 #[.pointer (some ⟨gt, 0, none⟩), .int .i64 (l : Int), .int .u64 (x : Int)] W fun e w' => e = .returned (.tuple #[.string ⟨a.toArray⟩, .bool true]) ∧ Below W.heap.size W w') := hid fun W hW => by rw [ha]; exact HAT.out W l x (by omega) (by omega) hW
            have HBB : Hid (∀ W, Alone w gt (.slice A1 L.length c1) L W → Calls Try.prog 94 #[.pointer (some ⟨gt, 0, none⟩), .int .i64 (l : Int), .int .u64 (z : Int)] W fun e w' => e = .returned (.tuple #[.string ⟨b.toArray⟩, .bool true]) ∧ Below W.heap.size W w') := hid fun W hW => by rw [hb]; exact HAT.out W l z (by omega) (by omega) hW
            have HH : Hid (∀ W, Calls Try.prog 42 #[.string ⟨#[110, 111, 100, 101]⟩, .slice (some ⟨W.heap.size, 0, none⟩) 2 2] (W.alloc (.cells #[.string ⟨a.toArray⟩, .string ⟨b.toArray⟩] 9 (0, 0))) fun e w' => e = .returned (.string ⟨y.toArray⟩) ∧ Below W.heap.size W w') := hid fun W => by
              have e : y = noded a b := by rw [hy, ha, hb, hx, hz]; rfl
              rw [e]; exact hlit_any tNode [a, b] (by decide) (by simp; omega) (by simp) W
            obtain ⟨nI, hnI2⟩ : ∃ n : Int, n = ((l + 1 : Nat) : Int) := ⟨_, rfl⟩
            have hnI17 : nI ≤ 17 := by omega
            have HNI := hid hnI2
            rw [← hnI2] at hlI hl0 hmI HY ⊢
            clear hx hz ha hb hal hbl e2 hy hnI2 hnI
            go_wp2_with fail
            refine (HA.out w6 H6.out).mono ?_
            rintro e w7 ⟨rfl, b7⟩
            have H7 := hid (H6.out.quiet b7)
            clear b7 H6
            go_wp2_with fail
            refine (HBB.out w7 H7.out).mono ?_
            rintro e w8 ⟨rfl, b8⟩
            have H8 := hid (H7.out.quiet b8)
            clear b8 H7
            go_wp2_with fail
            refine (HH.out w8).mono ?_
            rintro e w9 ⟨rfl, b9⟩
            have H9 := hid (H8.out.quiet b9)
            clear b9 H8
            go_wp2_with fail
            refine (HY.out w9 H9.out).mono ?_
            rintro e w10 ⟨rfl, b10⟩
            have HX := hid (H9.out.quiet b10)
            clear b10 H9
            go_wp2
            rw [HNI.out]
            go_roundw
            case rel => exact ⟨q + 1, by omega, by go_num, HX.out⟩
            case measure => simp [intOf]; omega
        · have hqI : ¬ (q : Int) < (P : Int) := by omega
          go_wp2_with fail
          refine (HNO.out wr n P hnD HP.out HQ.out).mono ?_
          rintro e w7 ⟨rfl, h7⟩
          subst w7
          go_wp2
          go_roundw
          case rel => exact ⟨n + 1, by omega, by go_num, HQ.out⟩
          case measure => simp [intOf]; omega
    · have hnI : ¬ (n : Int) ≤ (D : Int) := by omega
      obtain ⟨R, hR⟩ : ∃ R, R = td L D D 0 := ⟨_, rfl⟩
      have HA : Hid (∀ W, Alone w gt (.slice A1 L.length c1) L W → Calls Try.prog 94 #[.pointer (some ⟨gt, 0, none⟩), .int .i64 (D : Int), .int .u64 0] W fun e w' => e = .returned (.tuple #[.string ⟨R.toArray⟩, .bool true]) ∧ Below W.heap.size W w') := hid fun W hW => by rw [hR]; exact HAT.out W D 0 (Nat.le_refl _) (Nat.two_pow_pos _) hW
      have HR : Hid (∀ W, Alone w gt (.slice A1 L.length c1) L W → Calls Try.prog 89 #[.pointer (some ⟨gt, 0, none⟩)] W fun e w' => e = .returned (.string ⟨R.toArray⟩) ∧ w' = W) := hid fun W hW => by rw [hR]; exact HRT.out W hW
      clear hR
      go_wp2_with fail
      refine (HA.out wr HB.out).mono ?_
      rintro e w7 ⟨rfl, b7⟩
      have H7 := hid (HB.out.quiet b7)
      clear b7 HB
      go_wp2_with fail
      refine (HR.out w7 H7.out).mono ?_
      rintro e w8 ⟨rfl, h8⟩
      subst w8
      go_wp2
      go_ret
      exact ⟨rfl, H7.out.below⟩
end Go.Proofs.Ytcfohdkdppiekaa
