/- The law WindowLast: walk. -/
import Derived.Test.YtcfohdkdppiekaaWWorks24
import Derived.Test.YtcfohdkdppiekaaSpecPlay
import Derived.Test.YtcfohdkdppiekaaBytesAt
import Derived.Test.YtcfohdkdppiekaaZeros
namespace Go.Proofs.Ytcfohdkdppiekaa
open Go Go.RowKit Go.Proofs
/-- the roots: of the places -/
def rfI (k : Nat) : List UInt8 := rootOf (UInt8.ofNat k) false
theorem rfI_len (k : Nat) : (rfI k).length = 32 := by simp [rfI, rootOf]
/-- numbers as cells -/
def ucs (l : List Nat) : List Value := l.map fun x : Nat => .int .u64 (x : Int)
/-- a slice of numbers of the call's own -/
def ownU (w : World) (base : Nat) (v : Value) (l : List Nat) : Prop := w.ownsRow base 32 1 v l.length (ucs l)
theorem info_u64 : (Try.prog.info? 32).map (fun i => (i.zero, i.size, i.bytes)) = some (some (.int .u64 0), 1, 8) := by kernel_rfl
theorem ucs_get (l : List Nat) (i : Nat) (h : i < l.length) : (ucs l)[i]? = some (.int .u64 ((l.getD i 0 : Nat) : Int)) := by
  unfold ucs
  rw [List.getElem?_map, List.getD_eq_getElem?_getD, List.getElem?_eq_getElem h]; rfl
theorem ownU_append {ops : Array Oper} {rest : List Oper} {o : Oper} {a : Act} {w : World} {Q : Exit → Act → World → Prop} (hgd : o.guard = none) (s x : Operand)
    (ho : o.op = .call { callee := .builtin .append, args := #[s, x], argTypes := #[72, 72] }) (base : Nat) (v : Value) (l : List Nat) (y : Nat) (hs : a.eval s = v) (hown : ownU w base v l)
    (b : Nat) (hx : a.eval x = .slice (some ⟨b, 0, none⟩) 1 1) (hq : w.cell? ⟨b, 0, none⟩ = some (.int .u64 (y : Int)))
    (hlen : l.length ≤ 1000000) (hbase : base ≤ w.heap.size)
    (h : ∀ v' w', ownU w' base v' (l ++ [y]) → w.grownBy w' v.ownBlock → wpList Try.prog ops Q rest (a.put o.dst v') w') : wpList Try.prog ops Q (o :: rest) a w := by
  obtain ⟨i0, hi, hz0, hz1, hz2⟩ := info_parts info_u64
  refine wpList_append_own w hgd s x 72 ho base 32 i0 (.int .u64 0) 1 8 Try.underlying72 hi hz0 hz1 hz2 rfl (by decide) v l.length (ucs l) hs hown ⟨b, 0, none⟩ 1 1 (ucs [y]) hx rfl ?_ ?_ ?_ ?_ hbase ?_
  · intro j u hj
    have hj0 : j = 0 := by
      have := (List.getElem?_eq_some_iff.1 hj).1
      simp [ucs] at this; omega
    subst hj0
    have e : (⟨b, 0, none⟩ : Addr).add 0 = ⟨b, 0, none⟩ := by simp [Addr.add]
    rw [e, hq]; exact hj
  · intro u hu
    simp [ucs] at hu
    subst hu; rfl
  · unfold maxLen; omega
  · omega
  · intro v' w' h1 h2 _
    refine h v' w' ?_ h2
    unfold ownU
    rw [List.length_append]
    have e : ucs (l ++ [y]) = ucs l ++ ucs [y] := by simp [ucs]
    rw [e]; exact h1
theorem ownU.at {w : World} {base : Nat} {v : Value} {l : List Nat} (h : ownU w base v l) (hl : 0 < l.length) : ∃ g c, v = .slice (some ⟨g, 0, none⟩) l.length c ∧ g < w.heap.size ∧ ∀ i, i < l.length → w.cell? ⟨g, i, none⟩ = some (.int .u64 ((l.getD i 0 : Nat) : Int)) := by
  rcases h.2 with ⟨rfl, hn⟩ | ⟨g, cap, cur, rfl, _, hg, _, _, hcs, htk⟩
  · omega
  · refine ⟨g, cap, rfl, (Array.getElem?_eq_some_iff.1 hg).1, fun i hi => ?_⟩
    rw [cell_of_row w g i cur _ _ hg, ← ucs_get l i hi, ← htk, Nat.mul_one, List.getElem?_take_of_lt hi]
    simp
theorem row_win {W W' : World} {g most base E n : Nat} {L : List Iv} {v : Value} {xs : List Value} (h : isW W g most L) (ho : W.ownsRow base E 1 v n xs) (hg : W.grownBy W' (some g)) (hT : 156 ≠ E := by decide) : W'.ownsRow base E 1 v n xs := by
  obtain ⟨cs, p, h1, h2, h3, h4, h5, h6⟩ := h
  exact row_grown ho hg h6 hT
theorem WS.row {w W W' : World} {g most E n : Nat} {L : List Iv} {v : Value} {xs : List Value} (h : WS w g most L W) (ho : W.ownsRow w.heap.size E 1 v n xs) (hg : W.grownBy W' v.ownBlock) (hT : 156 ≠ E) : WS w g most L W' :=
  ⟨h.win.row ho hg hT, h.below.grown hg h.below.size (fun k hk => (row_lt ho k hk).1), h.hi⟩
theorem ownU.cell {w : World} {base u n cu : Nat} {l : List Nat} (h : ownU w base (.slice (some ⟨u, 0, none⟩) n cu) l) (i : Nat) (hi : i < l.length) : w.cell? ⟨u, i, none⟩ = some (.int .u64 ((l.getD i 0 : Nat) : Int)) ∧ u < w.heap.size := by
  obtain ⟨g, c, he, hg, hx⟩ := ownU.at h (by omega)
  injection he with h1 h2 h3
  injection h1 with h1
  injection h1 with h1
  subst h1
  exact ⟨hx i hi, hg⟩
/-- where the first k begin -/
def fsts (st : Nat) (s : List UInt8) (k : Nat) : List Nat := (List.range k).map (atK st s)
theorem fsts_len (st : Nat) (s : List UInt8) (k : Nat) : (fsts st s k).length = k := by simp [fsts]
theorem fsts_succ (st : Nat) (s : List UInt8) (k : Nat) : fsts st s (k + 1) = fsts st s k ++ [atK st s k] := by
  unfold fsts
  rw [List.range_succ, List.map_append]; rfl
theorem fsts_get (st : Nat) (s : List UInt8) (k i : Nat) (h : i < k) : (fsts st s k).getD i 0 = atK st s i := by
  unfold fsts
  rw [List.getD_eq_getElem?_getD, List.getElem?_map, List.getElem?_range h]; rfl
set_option maxRecDepth 100000 in
set_option maxHeartbeats 4000000 in
theorem last24 (m : Int) (hm : 0 ≤ m ∧ m ≤ 255) (fr : Int) (hfr : 0 ≤ fr ∧ fr ≤ 18446744073709551615) (l : List UInt8) (v : Value) (w : World) (hv : bytesAt w w.heap.size v l) :
    Calls Try.prog 12 #[.int .u8 m, .int .u64 fr, v] w fun e w' => e = .returned (.bool true) ∧ Below w.heap.size w w' := by
  obtain ⟨A, c, rfl, hlc, hc, hx⟩ := hv
  have HX := hid hx
  clear hx
  obtain ⟨n, hn⟩ : ∃ n : Nat, n = 1 + (m % 32).toNat := ⟨_, rfl⟩
  have hn1 : 1 ≤ n := by omega
  have hn32 : n ≤ 32 := by omega
  have hnI : 1 + m % 32 = (n : Int) := by omega
  obtain ⟨st, hst⟩ : ∃ st : Nat, st = (fr / 2).toNat := ⟨_, rfl⟩
  have hstI : fr / 2 = (st : Int) := by omega
  have hst63 : st ≤ 9223372036854775807 := by omega
  have HN1 := hid hn1
  have HN32 := hid hn32
  clear hn hn1 hn32 hst
  go_enter Try.func12, Try.ntmps12
  go_wp2_with fail
  refine (works24_any w).mono ?_
  rintro e w0 ⟨rfl, b0⟩
  have B0 := hid b0
  clear b0
  go_wp2_with fail
  refine (wnew_ws n HN1.out HN32.out w w0 B0.out).mono ?_
  rintro e w1 ⟨rfl, s1, b1⟩
  obtain ⟨ga, hga⟩ : ∃ g, g = w0.heap.size := ⟨_, rfl⟩
  rw [← hga] at s1
  rw [← hga]
  have S1 := hid s1
  clear s1 b1 hga B0
  obtain ⟨L, hL⟩ : ∃ L, L = l.length := ⟨_, rfl⟩
  rw [← hL] at hlc
  rw [← hL]
  have HL := hid hL
  clear hL
  obtain ⟨q, hq, hqb, hqc⟩ : ∃ q : Nat, min (L : Int) 50 = (q : Int) ∧ (q = 50 ∨ (q = L ∧ L ≤ 50)) ∧ q ≤ L := by
    by_cases h3 : L ≤ 50
    · exact ⟨L, by omega, Or.inr ⟨rfl, h3⟩, Nat.le_refl _⟩
    · exact ⟨50, by omega, Or.inl rfl, by omega⟩
  have hqa : (if (50 : Int) < (L : Int) then (50 : Int) else (L : Int)) = (q : Int) := by
    rw [← hq]
    split <;> omega
  have HqB := hid hqb
  clear hqb
  have hqc' : (q : Int) ≤ (c : Int) := by omega
  have hq50 : q ≤ 50 := by rcases HqB.out with h | h <;> omega
  have HQL := hid (show q ≤ l.length by rw [← HL.out]; exact hqc)
  go_wp2_with fail
  clear hq hqa HqB hqc hlc
  go_loopw [10, 11, 12] (fun at_ u i wr => ∃ k : Nat, k ≤ q ∧ i = .int .i64 k ∧ at_ = .int .u64 (atK st l k : Nat) ∧ ownU wr w.heap.size u (fsts st l k) ∧ WS w ga n (lastN n (ivs st l rfI k)) wr) (fun _ _ i _ => q - (intOf i).toNat)
  case atStart => exact ⟨0, by omega, rfl, rfl, World.ownsRow_nil _ _ _ _, by simpa [ivs, lastN] using S1.out⟩
  case round =>
    obtain ⟨k, hk, rfl, rfl, hou, hsa⟩ := hrel
    have HSA := hid hsa
    have HOU := hid hou
    clear hsa hou
    by_cases hlk : k < q
    · have hlk' : (k : Int) < (q : Int) := by omega
      obtain ⟨a, rfl, hab, hcell⟩ := HX.out k (by have := HQL.out; omega)
      rw [← HSA.out.below.cell (by rw [block_add]; exact hab)] at hcell
      have hak : (a.add k).block < wr.heap.size := by rw [block_add]; have := HSA.out.below.size; omega
      obtain ⟨x, hx⟩ : ∃ x : UInt8, x = l.getD k 0 := ⟨_, rfl⟩
      rw [← hx] at hcell
      have hx255 : x.toNat ≤ 255 := by have := x.toNat_lt; omega
      obtain ⟨p, hp⟩ : ∃ p, p = atK st l k := ⟨_, rfl⟩
      rw [← hp]
      have hp1 : p ≤ 9223372036854780000 := by have := (atK_le st l k).2; omega
      obtain ⟨z, hz⟩ : ∃ z, z = p + x.toNat % 64 := ⟨_, rfl⟩
      have hzI : (p : Int) + (x.toNat : Int) % 64 = (z : Int) := by omega
      have hz1 : z ≤ 9223372036854781000 := by omega
      have HXX := hid hx
      have HP := hid hp
      have HZ := hid hz
      have hal : Below wr.heap.size wr (wr.alloc (.cells #[.int .u64 (p : Int)] 32)) := (Below.refl _ _).alloc (Nat.le_refl _) _
      have OU2 := hid (row_below HOU.out hal)
      have SA2 := hid (HSA.out.quiet hal)
      have N2 := hid (arr.new wr 32 [.int .u64 (p : Int)])
      have hfl := fsts_len st l k
      clear hx hp hz hab hal
      go_wp2_with (refine ownU_append rfl _ _ rfl w.heap.size _ (fsts st l k) p rfl OU2.out wr.heap.size rfl (N2.out.cell 0 _ rfl) (by omega) SA2.out.below.size ?_; intro v' w3 ho3 hg3; have O3 := hid ho3; have G3 := hid hg3; clear ho3 hg3)
      have SA3 := hid (SA2.out.row OU2.out G3.out (by decide))
      have hck : ((UInt8.ofNat k).toNat : Int) = (k : Int) := by rw [UInt8.toNat_ofNat']; omega
      have hroot := root_any false 0 0 0 (UInt8.ofNat k) false w3
      rw [hck] at hroot
      have HRT := hid hroot
      clear hroot hck HSA HOU SA2 OU2 N2 G3 hcell hak
      refine HRT.out.mono ?_
      rintro e w4 ⟨rfl, b4⟩
      have A4 := hid (SA3.out.quiet b4)
      have O4 := hid (row_below O3.out b4)
      clear b4 SA3 O3 HRT
      obtain ⟨r, hr⟩ : ∃ r, r = rootOf (UInt8.ofNat k) false := ⟨_, rfl⟩
      have hrl : r.length = 32 := by rw [hr]; simp [rootOf]
      have HR := hid hr
      have HRL := hid hrl
      rw [← hr]
      clear hr hrl
      have hiv : ivK st l rfI k = (p, z, r) := by
        unfold ivK rfI
        rw [← HP.out, ← HXX.out, ← HR.out, ← HZ.out]
      have pa := ivs_put (st := st) (s := l) rfI_len n k HN1.out (by omega)
      rw [hiv] at pa
      have PA := hid pa
      have HIV := hid hiv
      clear pa hiv
      go_wp2_with fail
      have p4 := A4.out.more (f := p) (l := z) (r := r) (by have := HRL.out; omega) (by omega) (by omega)
      rw [PA.out.1, if_pos rfl, PA.out.2] at p4
      have P4 := hid p4
      clear p4
      refine P4.out.mono ?_
      rintro e w5 ⟨rfl, s5, g5⟩
      have A5 := hid s5
      have O5 := hid (row_win A4.out.win O4.out g5)
      clear s5 g5 A4 O4 P4 PA
      have hat : atK st l (k + 1) = z + 1 := by rw [atK, ← HP.out, ← HXX.out, HZ.out]
      have HAT := hid hat
      clear hat
      obtain ⟨j, hj⟩ : ∃ j, j = min (k + 1) n := ⟨_, rfl⟩
      have hjl : (lastN n (ivs st l rfI (k + 1))).length = j := by rw [lastN_ivs, List.length_drop, ivs_len]; omega
      have hja : (if (n : Int) < (k : Int) + 1 then (n : Int) else (k : Int) + 1) = (j : Int) := by split <;> omega
      have hjb : min ((k : Int) + 1) (n : Int) = (j : Int) := by omega
      have HJL := hid hjl
      clear hjl hj
      go_wp2_with fail
      refine (wlen_any ga n _ w5 A5.out.win).mono ?_
      rintro e w6 ⟨rfl, hw6⟩
      subst w6
      rw [HJL.out]
      go_wp2
      go_roundw
      case rel => exact ⟨k + 1, by omega, by go_num, by rw [HAT.out]; go_num, by rw [fsts_succ, ← HP.out]; exact O5.out, A5.out⟩
      case measure => simp [intOf]; omega
    · obtain rfl : k = q := by omega
      obtain ⟨X, hX⟩ : ∃ X, X = lastN n (ivs st l rfI k) := ⟨_, rfl⟩
      have hsa := HSA.out
      rw [← hX] at hsa
      have A1 := hid hsa
      have HXX := hid hX
      have hXl : X.length = k - (k - n) := by rw [hX, lastN_ivs, List.length_drop, ivs_len]
      have HXL := hid hXl
      clear hsa HSA hX hXl S1
      by_cases hk0 : k = 0
      · subst hk0
        have hX0 : X = [] := by rw [HXX.out]; simp [ivs, lastN]
        have hfv : finV X st = .tuple #[.int .u64 0, .int .u64 0, .string ByteArray.empty, .int .i64 19] := by rw [hX0]; rfl
        have HFV := hid hfv
        clear hX0 hfv
        go_wp2_with fail
        refine (find_any ga n X st wr A1.out.win).mono ?_
        rintro e w3 ⟨rfl, b3⟩
        have A3 := hid (A1.out.quiet b3)
        clear b3 A1
        rw [HFV.out]
        go_wp2
        go_ret
        exact ⟨rfl, A3.out.below⟩
      · have hk0' : ¬ (k : Int) = 0 := by omega
        obtain ⟨eld, held⟩ : ∃ e, e = k - n := ⟨_, rfl⟩
        have hXI : (k : Int) - (X.length : Int) = (eld : Int) := by have := HXL.out; omega
        have HE := hid held
        have hou := HOU.out
        obtain ⟨u, cu, rfl, hul, hucell⟩ := ownU.at hou (by rw [fsts_len]; omega)
        rw [fsts_len] at hou ⊢
        have HOW := hid hou
        clear hou hul hucell HOU held
        go_wp2_with fail
        refine (wlen_any ga n X wr A1.out.win).mono ?_
        rintro e w3 ⟨rfl, hw3⟩
        subst w3
        go_wp2_with fail
        go_loopw [19] (fun i wr2 => ∃ j : Nat, j ≤ k ∧ i = .int .i64 j ∧ ownU wr2 w.heap.size (.slice (some ⟨u, 0, none⟩) k cu) (fsts st l k) ∧ WS w ga n X wr2) (fun i _ => k - (intOf i).toNat)
        case atStart => exact ⟨0, by omega, rfl, HOW.out, A1.out⟩
        case round =>
          rename_i wr0 _
          obtain ⟨j, hj, rfl, hou, hsa⟩ := hrel
          have HSA := hid hsa
          have HOU := hid hou
          clear hsa hou HOW A1
          by_cases hlj : j < k
          · have hlj' : (j : Int) < (k : Int) := by omega
            obtain ⟨a, rfl, hab, hcell⟩ := HX.out j (by have := HQL.out; omega)
            rw [← HSA.out.below.cell (by rw [block_add]; exact hab)] at hcell
            have hak : (a.add j).block < wr.heap.size := by rw [block_add]; have := HSA.out.below.size; omega
            obtain ⟨u', cu', he, hul, hucell⟩ := ownU.at HOU.out (by rw [fsts_len]; omega)
            obtain ⟨rfl, -, rfl⟩ : u = u' ∧ k = (fsts st l k).length ∧ cu = cu' := by
              injection he with h1 h2 h3
              injection h1 with h1
              injection h1 with h1
              exact ⟨h1, h2, h3⟩
            have hucj := hucell j (by rw [fsts_len]; exact hlj)
            rw [fsts_get _ _ _ _ hlj] at hucj
            obtain ⟨x, hx⟩ : ∃ x : UInt8, x = l.getD j 0 := ⟨_, rfl⟩
            rw [← hx] at hcell
            have hx255 : x.toNat ≤ 255 := by have := x.toNat_lt; omega
            obtain ⟨p, hp⟩ : ∃ p, p = atK st l j := ⟨_, rfl⟩
            rw [← hp] at hucj
            have hp1 : p ≤ 9223372036854780000 := by have := (atK_le st l j).2; omega
            obtain ⟨z, hz⟩ : ∃ z, z = p + x.toNat % 64 := ⟨_, rfl⟩
            have hzI : (p : Int) + (x.toNat : Int) % 64 = (z : Int) := by omega
            have hz1 : z ≤ 9223372036854781000 := by omega
            have hpz : p ≤ z := by omega
            have hiv : ivK st l rfI j = (p, z, rfI j) := by
              unfold ivK
              rw [← hp, ← hx, ← hz]
            have HIV := hid hiv
            have HPJ := hid hp
            clear he hucell hab hx hp hz hiv
            go_wp2_with fail
            refine wp_region_sq (fun W' => W' = wr.drew) [(true, 0), (true, 1), (true, 2), (true, 3), (true, 4), (true, 5), (true, 6), (true, 7), (true, 8), (true, 9), (true, 10)] 11 rfl (by kernel_rfl) (by kernel_rfl) (by kernel_rfl) (by decide) rfl (by kernel_rfl) rfl ?_
            refine sq_soft rfl (by kernel_rfl) (fun W hW => (by subst hW; go_simp; try rfl)) ?_; go_frame
            refine sq_soft rfl (by kernel_rfl) (fun W hW => (by subst hW; go_simp; try rfl)) ?_; go_frame
            refine sq_soft rfl (by kernel_rfl) (fun W hW => (by subst hW; go_simp; try rfl)) ?_; go_frame
            refine sq_soft rfl (by kernel_rfl) (fun W hW => (by subst hW; go_simp; try rfl)) ?_; go_frame
            refine sq_soft rfl (by kernel_rfl) (fun W hW => (by subst hW; go_simp; try rfl)) ?_; go_frame
            refine sq_soft rfl (by kernel_rfl) (fun W hW => (by subst hW; go_simp; try rfl)) ?_; go_frame
            refine sq_soft rfl (by kernel_rfl) (fun W hW => (by subst hW; go_simp; try rfl)) ?_; go_frame
            refine sq_soft rfl (by kernel_rfl) (fun W hW => (by subst hW; go_simp; try rfl)) ?_; go_frame
            refine sq_soft rfl (by kernel_rfl) (fun W hW => (by subst hW; go_simp; try rfl)) ?_; go_frame
            refine sq_soft rfl (by kernel_rfl) (fun W hW => (by subst hW; go_simp; try rfl)) ?_; go_frame
            refine sq_soft rfl (by kernel_rfl) (fun W hW => (by subst hW; go_simp; try rfl)) ?_; go_frame
            refine sched_done ?_
            have A2 := hid (HSA.out.quiet (Below.refl wr.heap.size wr).drew)
            have O2 := hid (row_below HOU.out (Below.refl wr.heap.size wr).drew)
            go_wp2_with fail
            clear HSA hak hcell hucj hul
            rw [hzI]
            go_loopw [21] (fun r wr3 => ∃ y : Nat, p ≤ y ∧ y ≤ z + 1 ∧ r = .int .u64 y ∧ ownU wr3 w.heap.size (.slice (some ⟨u, 0, none⟩) k cu) (fsts st l k) ∧ WS w ga n X wr3) (fun r _ => z + 1 - (intOf r).toNat)
            case atStart => exact ⟨p, by omega, by omega, rfl, O2.out, A2.out⟩
            case round =>
              obtain ⟨y, hy1, hy2, rfl, hou, hsa⟩ := hrel
              have A3 := hid hsa
              have O3 := hid hou
              clear hsa hou A2 O2 HOU
              by_cases hyz : y ≤ z
              · have hyz' : (y : Int) ≤ (z : Int) := by omega
                have hfind := ivs_find (st := st) (s := l) rfI_len n k j y hlj HN1.out (by omega) (by rw [HIV.out]; exact hy1) (by rw [HIV.out]; exact hyz)
                rw [← HXX.out, ← HE.out, HIV.out] at hfind
                by_cases hje : j < eld
                · have hje' : (j : Int) < (eld : Int) := by omega
                  obtain ⟨f1, f2⟩ := hfind.1 hje
                  have hfv : finV X y = .tuple #[.int .u64 0, .int .u64 0, .string ByteArray.empty, .int .i64 16] := by
                    unfold finV
                    rw [f1, f2]; rfl
                  have HFV := hid hfv
                  clear hfind f1 f2 hfv
                  go_wp2_with fail
                  refine (find_any ga n X y wr A3.out.win).mono ?_
                  rintro e w4 ⟨rfl, b4⟩
                  have A4 := hid (A3.out.quiet b4)
                  have O4 := hid (row_below O3.out b4)
                  clear b4 A3 O3
                  rw [HFV.out]
                  go_wp2
                  go_roundw
                  case rel => exact ⟨y + 1, by omega, by omega, by go_num, O4.out, A4.out⟩
                  case measure => simp [intOf]; omega
                · have hje' : ¬ (j : Int) < (eld : Int) := by omega
                  have f1 := hfind.2 hje
                  obtain ⟨r, hr⟩ : ∃ r, r = rfI j := ⟨_, rfl⟩
                  rw [← hr] at f1
                  have hfv : finV X y = .tuple #[.int .u64 (p : Int), .int .u64 (z : Int), .string ⟨r.toArray⟩, .int .i64 0] := by
                    unfold finV
                    rw [f1]
                  have HFV := hid hfv
                  have HR := hid (show rootOf (UInt8.ofNat j) false = r from hr.symm)
                  clear hfind f1 hfv hr
                  go_wp2_with fail
                  refine (find_any ga n X y wr A3.out.win).mono ?_
                  rintro e w4 ⟨rfl, b4⟩
                  have A4 := hid (A3.out.quiet b4)
                  have O4 := hid (row_below O3.out b4)
                  clear b4 A3 O3
                  rw [HFV.out]
                  have hck : ((UInt8.ofNat j).toNat : Int) = (j : Int) := by rw [UInt8.toNat_ofNat']; omega
                  have hroot := root_any false 0 0 0 (UInt8.ofNat j) false w4
                  rw [hck, HR.out] at hroot
                  have HRT := hid hroot
                  obtain ⟨hucj, hul⟩ := ownU.cell O4.out j (by rw [fsts_len]; exact hlj)
                  rw [fsts_get _ _ _ _ hlj, ← HPJ.out] at hucj
                  clear hroot hck
                  go_wp2_with fail
                  refine HRT.out.mono ?_
                  rintro e w5 ⟨rfl, b5⟩
                  have A5 := hid (A4.out.quiet b5)
                  have O5 := hid (row_below O4.out b5)
                  clear b5 A4 O4 HRT hucj hul
                  go_wp2
                  go_roundw
                  case rel => exact ⟨y + 1, by omega, by omega, by go_num, O5.out, A5.out⟩
                  case measure => simp [intOf]; omega
              · obtain rfl : y = z + 1 := by omega
                have hyz' : ¬ ((z : Int) + 1) ≤ (z : Int) := by omega
                go_wp2
                go_roundw
                case rel => exact ⟨j + 1, by omega, by go_num, O3.out, A3.out⟩
                case measure => simp [intOf]; omega
          · obtain rfl : j = k := by omega
            have hbh := ivs_behind (st := st) (s := l) rfI_len n j HN1.out (by omega)
            rw [← HXX.out] at hbh
            have hfv : finV X (atK st l j) = .tuple #[.int .u64 0, .int .u64 0, .string ByteArray.empty, .int .i64 19] := by
              unfold finV
              rw [hbh.1, hbh.2]; rfl
            have HFV := hid hfv
            clear hbh hfv
            go_wp2_with fail
            refine (find_any ga n X (atK st l j) wr HSA.out.win).mono ?_
            rintro e w3 ⟨rfl, b3⟩
            have A3 := hid (HSA.out.quiet b3)
            clear b3 HSA
            rw [HFV.out]
            go_wp2
            go_ret
            exact ⟨rfl, A3.out.below⟩
end Go.Proofs.Ytcfohdkdppiekaa
