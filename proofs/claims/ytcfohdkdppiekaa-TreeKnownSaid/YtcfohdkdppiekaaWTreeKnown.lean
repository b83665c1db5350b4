/- The law TreeKnown: walk. -/
import Derived.Test.YtcfohdkdppiekaaWWorks9
import Derived.Test.YtcfohdkdppiekaaAppS
namespace Go.Proofs.Ytcfohdkdppiekaa
open Go Go.RowKit Go.Proofs
attribute [local go_sem] Oper.semAt_some
theorem blank_cells (n : Nat) : (madeCells (Value.string ByteArray.empty).cells (n * 1)).toList = scs (List.replicate n []) := by
  rw [Nat.mul_one]
  show (madeCells #[Value.string ByteArray.empty] n).toList = _
  rw [toList_madeCells_one]
  simp [scs]
  exact Or.inr rfl
/-- empty texts that are made -/
theorem wpList_blanks {ops : Array Oper} {rest : List Oper} {o : Oper} {a : Act} {w : World} {Q : Exit → Act → World → Prop} (hgd : o.guard = none) (x y : Operand) (ho : o.op = .makeSlice 26 x y) (N : Int) (n : Nat) (hN : N = (n : Int)) (hx : a.eval x = .int .i64 N) (hy : a.eval y = .int .i64 N)
    (hn : n ≤ 1000000) (h : ∀ w' v', v' = .slice (some ⟨w.heap.size, 0, none⟩) n n → strsAt w' w'.heap.size v' (List.replicate n []) → Below w.heap.size w w' → wpList Try.prog ops Q rest (a.put o.dst v') w') : wpList Try.prog ops Q (o :: rest) a w := by
  obtain ⟨i0, hi, hz0, hz1, hz2⟩ := info_parts info_str
  obtain ⟨w', hrun, r1, r2⟩ := run_make_full (P := Try.prog) w w.heap.size 26 9 i0 (.string ByteArray.empty) 1 Try.underlying26 hi hz0 hz1 .i64 .i64 n (by rw [hz2]; omega) (by unfold maxLen; omega) (Nat.le_refl _)
  have hO : ownS w' w.heap.size (.slice (some ⟨w.heap.size, 0, none⟩) n n) (List.replicate n []) := by
    unfold ownS
    rw [List.length_replicate, ← blank_cells]
    exact r1
  subst hN
  refine wpList_plain hgd fun K hK => ?_
  unfold Oper.wp
  simp [execOp, ho, hx, hy, hrun, Result.andThen]
  exact hK _ _ (h w' _ rfl (hO.strs (by intro s hs; rw [List.mem_replicate] at hs; rw [hs.2]; exact Nat.zero_le _)) ((Below.refl _ _).grown r2 (Nat.le_refl _) (fun k hk => by cases hk)))
theorem rep_len (n : Nat) : (List.replicate n ([] : List UInt8)).length = n := List.length_replicate
theorem rep_small (n : Nat) : ∀ s ∈ List.replicate n ([] : List UInt8), s.length ≤ 1000000 := by
  intro s hs
  rw [List.mem_replicate] at hs
  rw [hs.2]; exact Nat.zero_le _
/-- what stands at the top of a tree of 2^16 empty texts -/
theorem full_root (F : List (List UInt8)) (n : Nat) (hn : n = 65536) (hF : F = List.replicate n []) : td F (dp F.length) (dp F.length) 0 = twice (leafd []) 16 := by
  have hl : F.length = n := by rw [hF, rep_len]
  rw [hl, hn, dp65536]
  refine td_alike F 16 [] (by rw [hl, hn]) ?_ 16 0 (Nat.le_refl _) (by decide)
  intro i hi
  rw [hF, List.getD_eq_getElem?_getD, List.getElem?_replicate]
  split <;> rfl
set_option maxRecDepth 100000 in
set_option maxHeartbeats 2000000 in
theorem tknown_any {w : World} : Calls Try.prog 26 #[] w fun e w' => e = .returned (.bool true) ∧ Below w.heap.size w w' := by
  obtain ⟨n, hn⟩ : ∃ n : Nat, n = 65537 := ⟨_, rfl⟩
  have hnI : (65537 : Int) = (n : Int) := by omega
  have hn6 : n ≤ 1000000 := by omega
  obtain ⟨m, hm⟩ : ∃ m : Nat, m = 65536 := ⟨_, rfl⟩
  obtain ⟨F, hF⟩ : ∃ F, F = List.replicate m ([] : List UInt8) := ⟨_, rfl⟩
  have hFl : F.length = m := by rw [hF, rep_len]
  have HFS : Hid (∀ s ∈ F, s.length ≤ 1000000) := hid (by rw [hF]; exact rep_small m)
  obtain ⟨G, hG⟩ : ∃ G : List (List UInt8), G = [[97], [98], [99], [100], [101]] := ⟨_, rfl⟩
  have hGd : dp G.length = 3 := by rw [hG]; exact dp5
  have hGl : G.length = 5 := by rw [hG]; rfl
  have HFL := hid hFl
  obtain ⟨l0, hl0⟩ : ∃ x, x = leafd [] := ⟨_, rfl⟩
  have hl0l : l0.length = 32 := by rw [hl0]; exact hsh_len ok_leaf _
  obtain ⟨nd, hnd⟩ : ∃ x, x = noned := ⟨_, rfl⟩
  obtain ⟨le, hle⟩ : ∃ x, x = leafd [101] := ⟨_, rfl⟩
  have htl : ∀ k, (twice l0 k).length = 32 := fun k => by
    cases k with
    | zero => exact hl0l
    | succ k => exact hsh_len ok_node _
  have C0 : Hid (∀ W, Calls Try.prog 42 #[.string ⟨#[108, 101, 97, 102]⟩, .slice (some ⟨W.heap.size, 0, none⟩) 1 1] (W.alloc (.cells #[.string ⟨#[]⟩] 9 (0, 0))) fun e w' => e = .returned (.string ⟨l0.toArray⟩) ∧ Below W.heap.size W w') := hid fun W => by rw [hl0]; exact hlit_any tLeaf [[]] (by decide) (by simp) (by simp) W
  have C1 : Hid (∀ W, Calls Try.prog 42 #[.string ⟨#[108, 101, 97, 102]⟩, .slice (some ⟨W.heap.size, 0, none⟩) 1 1] (W.alloc (.cells #[.string ⟨#[101]⟩] 9 (0, 0))) fun e w' => e = .returned (.string ⟨le.toArray⟩) ∧ Below W.heap.size W w') := hid fun W => by rw [hle]; exact hlit_any tLeaf [[101]] (by decide) (by simp) (by simp) W
  have C2 : Hid (∀ W, Calls Try.prog 42 #[.string ⟨#[110, 111, 110, 101]⟩, .slice none 0 0] W fun e w' => e = .returned (.string ⟨nd.toArray⟩) ∧ Below W.heap.size W w') := hid fun W => by rw [hnd]; exact hash_any tNone [] _ W (strsAt.nil _ _) (by decide) (by simp [fparts]) (by simp)
  have CT : Hid (∀ (k : Nat) (x y : List UInt8), x = twice l0 k → y = twice l0 (k + 1) → ∀ W, Calls Try.prog 42 #[.string ⟨#[110, 111, 100, 101]⟩, .slice (some ⟨W.heap.size, 0, none⟩) 2 2] (W.alloc (.cells #[.string ⟨x.toArray⟩, .string ⟨x.toArray⟩] 9 (0, 0))) fun e w' => e = .returned (.string ⟨y.toArray⟩) ∧ Below W.heap.size W w') := hid fun k x y hx hy W => by
    have e : y = noded x x := by rw [hy, hx]; rfl
    rw [e]; exact hlit_any tNode [x, x] (by decide) (by simp; rw [hx, htl]; decide) (by simp) W
  have BF : Hid (∀ W v, strsAt W W.heap.size v F → Calls Try.prog 87 #[v] W (Built W F)) := hid fun W v hv => build_any F (by rw [hFl, hm]; exact Nat.le_refl _) HFS.out v W hv
  have BG : Hid (∀ W, Calls Try.prog 87 #[.slice (some ⟨W.heap.size, 0, none⟩) 5 5] (W.alloc (.cells #[.string ⟨#[97]⟩, .string ⟨#[98]⟩, .string ⟨#[99]⟩, .string ⟨#[100]⟩, .string ⟨#[101]⟩] 9 (0, 0))) (Built W G)) := hid fun W => by rw [hG]; exact blit_any [[97], [98], [99], [100], [101]] (by simp) (by simp) W
  have G1 : Hid (∀ g W, isTree W g G → Calls Try.prog 94 #[.pointer (some ⟨g, 0, none⟩), .int .i64 (-1), .int .u64 0] W fun e w' => e = .returned (.tuple #[.string ⟨#[]⟩, .bool false]) ∧ w' = W) := hid fun g W h => tat_out g G (by rw [hGl]; decide) (-1) 0 (by decide) (by decide) (by rintro ⟨h0, -⟩; exact absurd h0 (by decide)) W h
  have G2 : Hid (∀ g W, isTree W g G → Calls Try.prog 94 #[.pointer (some ⟨g, 0, none⟩), .int .i64 4, .int .u64 0] W fun e w' => e = .returned (.tuple #[.string ⟨#[]⟩, .bool false]) ∧ w' = W) := hid fun g W h => tat_out g G (by rw [hGl]; decide) 4 0 (by decide) (by decide) (by rintro ⟨-, h1, -⟩; rw [hGd] at h1; exact absurd h1 (by decide)) W h
  have G3 : Hid (∀ g W, isTree W g G → Calls Try.prog 94 #[.pointer (some ⟨g, 0, none⟩), .int .i64 0, .int .u64 9223372036854775808] W fun e w' => e = .returned (.tuple #[.string ⟨#[]⟩, .bool false]) ∧ w' = W) := hid fun g W h => tat_out g G (by rw [hGl]; decide) 0 9223372036854775808 (by decide) (by decide) (by rintro ⟨-, -, h2⟩; rw [hGd] at h2; exact absurd h2 (by decide)) W h
  have G4 : Hid (∀ g W, isTree W g G → Calls Try.prog 94 #[.pointer (some ⟨g, 0, none⟩), .int .i64 0, .int .u64 1] W fun e w' => e = .returned (.tuple #[.string ⟨le.toArray⟩, .bool true]) ∧ Below W.heap.size W w') := hid fun g W h => by
    have := tat_in g G (by rw [hGl]; decide) 0 1 (Nat.zero_le _) (by rw [hGd]; decide) W h
    rw [hGd, show td G 3 0 1 = le by rw [hG, hle]; simp [td, tleaf, rv]] at this
    exact this
  have G5 : Hid (∀ g W, isTree W g G → Calls Try.prog 94 #[.pointer (some ⟨g, 0, none⟩), .int .i64 0, .int .u64 3] W fun e w' => e = .returned (.tuple #[.string ⟨nd.toArray⟩, .bool true]) ∧ Below W.heap.size W w') := hid fun g W h => by
    have := tat_in g G (by rw [hGl]; decide) 0 3 (Nat.zero_le _) (by rw [hGd]; decide) W h
    rw [hGd, show td G 3 0 3 = nd by rw [hG, hnd]; simp [td, tleaf, rv]] at this
    exact this
  have G6 : Hid (∀ g W, isTree W g G → Calls Try.prog 91 #[.pointer (some ⟨g, 0, none⟩)] W fun e w' => e = .returned (.int .i64 3) ∧ w' = W) := hid fun g W h => by have := tdepth_any g G W h; rw [hGd] at this; exact this
  have F1 : Hid (∀ g W, isTree W g F → Calls Try.prog 94 #[.pointer (some ⟨g, 0, none⟩), .int .i64 16, .int .u64 1] W fun e w' => e = .returned (.tuple #[.string ⟨#[]⟩, .bool false]) ∧ w' = W) := hid fun g W h => tat_out g F (by rw [hFl, hm]; exact Nat.le_refl _) 16 1 (by decide) (by decide) (by rintro ⟨-, -, h2⟩; rw [hFl, hm, dp65536] at h2; exact absurd h2 (by decide)) W h
  have F2 : Hid (∀ g W, isTree W g F → Calls Try.prog 91 #[.pointer (some ⟨g, 0, none⟩)] W fun e w' => e = .returned (.int .i64 16) ∧ w' = W) := hid fun g W h => by have := tdepth_any g F W h; rw [hFl, hm, dp65536] at this; exact this
  have F3 : Hid (∀ g W, isTree W g F → Calls Try.prog 93 #[.pointer (some ⟨g, 0, none⟩)] W fun e w' => e = .returned (.int .i64 65536) ∧ w' = W) := hid fun g W h => by have := tlen_any g F W h; rw [hFl] at this; have e : (65536 : Int) = (m : Int) := (by omega); rw [e]; exact this
  have F4 : Hid (∀ g x W, x = twice l0 16 → isTree W g F → Calls Try.prog 89 #[.pointer (some ⟨g, 0, none⟩)] W fun e w' => e = .returned (.string ⟨x.toArray⟩) ∧ w' = W) := hid fun g x W hx h => by have := troot_any g F W h; rw [full_root F m hm hF, ← hl0, ← hx] at this; exact this
  have HFF : Hid (List.replicate m [] = F) := hid hF.symm
  clear hF hFl hG hGd hGl hl0 hl0l hnd hle htl
  have hmI : (65536 : Int) = (m : Int) := by omega
  have hm6 : m ≤ 1000000 := by omega
  have HN := hid hn
  have HM := hid hm
  have HNI := hid hnI
  have HMI := hid hmI
  have HN6 := hid hn6
  have HM6 := hid hm6
  clear hn hm hnI hmI hn6 hm6
  go_enter Try.func26, Try.ntmps26
  go_wp2_with (refine wpList_blanks rfl _ _ rfl 65537 n HNI.out rfl rfl HN6.out ?_; intro w1 v1 hv1 hs1 hb1; have V1 := hid hv1; have S1 := hid hs1; have B1 := hid hb1; clear hv1 hs1 hb1)
  refine (build_long (List.replicate n []) (by rw [rep_len, HN.out]; decide) v1 w1 S1.out).mono ?_
  rintro e w2 ⟨rfl, b2⟩
  have B2 := hid (below_all B1.out b2)
  clear b2 V1 S1 B1 HN HNI HN6
  go_wp2_with (refine wpList_blanks rfl _ _ rfl 65536 m HMI.out rfl rfl HM6.out ?_; intro w3 v3 hv3 hs3 hb3; have V3 := hid hv3; have S3 := hid hs3; have B3 := hid (below_all B2.out hb3); clear hv3 hs3 hb3)
  rw [HFF.out] at S3
  refine (BF.out w3 v3 S3.out).mono ?_
  rintro e w4 ⟨gf, rfl, t4, b4⟩
  have B4 := hid (below_all B3.out b4)
  have T4 := hid t4
  clear b4 t4 V3 S3 B3
  go_wp2_with fail
  refine (C0.out w4).mono ?_
  rintro e w5 ⟨rfl, b5⟩
  have B5 := hid (below_all B4.out b5)
  have T5 := hid (T4.out.keep b5)
  clear b5 B4 T4
  go_wp2_with fail
  go_loopw [6, 7] (fun x i wr => ∃ (k : Nat) (t : List UInt8), k ≤ 16 ∧ i = .int .i64 (k : Int) ∧ x = .string ⟨t.toArray⟩ ∧ Hid (t = twice l0 k) ∧ isTree wr gf F ∧ Below w.heap.size w wr) (fun _ i _ => 16 - (intOf i).toNat)
  case atStart => exact ⟨0, l0, by omega, rfl, rfl, hid rfl, T5.out, B5.out⟩
  case round =>
    obtain ⟨k, x, hk, rfl, rfl, hx, ht, hb⟩ := hrel
    have HB := hid hb
    have HT := hid ht
    clear hb ht B5 T5
    by_cases hk16 : k < 16
    · have hkI : (k : Int) < 16 := by omega
      obtain ⟨y, hy⟩ : ∃ y, y = twice l0 (k + 1) := ⟨_, rfl⟩
      have HY := hid hy
      clear hy
      go_wp2_with fail
      refine (CT.out k x y hx.out HY.out wr).mono ?_
      rintro e w6 ⟨rfl, b6⟩
      have B6 := hid (below_all HB.out b6)
      have T6 := hid (HT.out.keep b6)
      clear b6 HB HT
      go_wp2
      go_roundw
      case rel => exact ⟨k + 1, y, by omega, by go_num, rfl, HY, T6.out, B6.out⟩
      case measure => simp [intOf]; omega
    · obtain rfl : k = 16 := by omega
      go_wp2_with fail
      refine (BG.out wr).mono ?_
      rintro e w6 ⟨gg, rfl, t6, b6⟩
      have B6 := hid (below_all HB.out b6)
      have T6 := hid (HT.out.keep b6)
      have U6 := hid t6
      clear b6 t6 HB HT
      go_wp2_with fail
      refine (G1.out gg w6 U6.out).mono ?_
      rintro e w7 ⟨rfl, h7⟩
      subst w7
      go_wp2_with fail
      refine (G2.out gg w6 U6.out).mono ?_
      rintro e w7 ⟨rfl, h7⟩
      subst w7
      go_wp2_with fail
      refine (G3.out gg w6 U6.out).mono ?_
      rintro e w7 ⟨rfl, h7⟩
      subst w7
      go_wp2_with fail
      refine (G4.out gg w6 U6.out).mono ?_
      rintro e w7 ⟨rfl, b7⟩
      have B7 := hid (below_all B6.out b7)
      have T7 := hid (T6.out.keep b7)
      have U7 := hid (U6.out.keep b7)
      clear b7 B6 T6 U6
      go_wp2_with fail
      refine (G5.out gg w7 U7.out).mono ?_
      rintro e w8 ⟨rfl, b8⟩
      have B8 := hid (below_all B7.out b8)
      have T8 := hid (T7.out.keep b8)
      have U8 := hid (U7.out.keep b8)
      clear b8 B7 T7 U7
      go_wp2_with fail
      refine (tat_nil 0 0 w8).mono ?_
      rintro e w9 ⟨rfl, h9⟩
      subst w9
      go_wp2_with fail
      refine (twith_nil 0 [] w8).mono ?_
      rintro e w9 ⟨rfl, b9⟩
      have B9 := hid (below_all B8.out b9)
      have T9 := hid (T8.out.keep b9)
      have U9 := hid (U8.out.keep b9)
      clear b9 B8 T8 U8
      go_wp2_with fail
      refine (F1.out gf w9 T9.out).mono ?_
      rintro e w10 ⟨rfl, h10⟩
      subst w10
      go_wp2_with fail
      refine (works9_any w9).mono ?_
      rintro e w10 ⟨rfl, b10⟩
      have BA := hid (below_all B9.out b10)
      have TA := hid (T9.out.keep b10)
      have UA := hid (U9.out.keep b10)
      clear b10 B9 T9 U9
      go_wp2_with fail
      refine (F2.out gf w10 TA.out).mono ?_
      rintro e w11 ⟨rfl, h11⟩
      subst w11
      go_wp2_with fail
      refine (F3.out gf w10 TA.out).mono ?_
      rintro e w11 ⟨rfl, h11⟩
      subst w11
      go_wp2_with fail
      refine (F4.out gf x w10 hx.out TA.out).mono ?_
      rintro e w11 ⟨rfl, h11⟩
      subst w11
      go_wp2_with fail
      refine (G6.out gg w10 UA.out).mono ?_
      rintro e w11 ⟨rfl, h11⟩
      subst w11
      go_wp2_with fail
      refine (C1.out w10).mono ?_
      rintro e w11 ⟨rfl, b11⟩
      have BB := hid (below_all BA.out b11)
      clear b11 BA TA UA
      go_wp2_with fail
      refine (C2.out w11).mono ?_
      rintro e w12 ⟨rfl, b12⟩
      have BC := hid (below_all BB.out b12)
      clear b12 BB
      go_wp2_with fail
      refine (troot_nil w12).mono ?_
      rintro e w13 ⟨rfl, h13⟩
      subst w13
      go_wp2_with fail
      refine (tdepth_nil w12).mono ?_
      rintro e w13 ⟨rfl, h13⟩
      subst w13
      go_wp2_with fail
      refine (tlen_nil w12).mono ?_
      rintro e w13 ⟨rfl, h13⟩
      subst w13
      go_wp2
      go_ret
      exact ⟨rfl, BC.out⟩
end Go.Proofs.Ytcfohdkdppiekaa
