/- The document's window: Find, Digest: contracts. -/
import Derived.Test.YtcfohdkdppiekaaWRefWin
namespace Go.Proofs.Ytcfohdkdppiekaa
open Go Go.RowKit Go.Proofs
/-- what Find answers -/
def rfinV (L : List Iv) (q : Nat) : Value := match fin L q with
  | some x => .tuple #[.agg (ivCells x).toArray, .int .i64 0]
  | none => .tuple #[.agg #[.int .u64 0, .int .u64 0, .string ByteArray.empty], .int .i64 (finE L q : Nat)]
theorem res_two {P : Program} {fn : Func} {p t : Tmp} {ty : TypeId} (h : fn.results = #[.cell p ty, .tmp t]) (tmps : Array Value) (w : World) (g : Nat) (T : TypeId) (cs : List Value) (d : TypeDesc)
    (hp : tmps.getD p undef = .pointer (some ⟨g, 0, none⟩)) (hg : arr w g T cs) (hu : P.underlying ty = some d) (hd : (match d with | .struct _ | .array _ _ => true | _ => false) = true) (hi : (P.info? ty).map (·.size) = some cs.length) :
    (results fn tmps).run P w = .ok (.tuple #[.agg cs.toArray, tmps.getD t undef]) w := by
  have hl := run_loadVar_part (P := P) w g 0 ty cs d (fun j v hv => by rw [Nat.zero_add]; exact hg.cell j v hv) hu hd hi
  rw [Array.getD_eq_getD_getElem?] at hp
  simp [results, h, hp, hl, Sem.run_bind, asAddr]
def zeroIv : List Value := [.int .u64 0, .int .u64 0, .string ByteArray.empty]
theorem rfind_ret {w W : World} {g : Nat} {T : TypeId} {cs : List Value} {e : Int} {a : Act} (hd : a.defers = []) (hp : a.tmps.getD 4 undef = .pointer (some ⟨g, 0, none⟩)) (he : a.tmps.getD 5 undef = .int .i64 e) (hg : arr W g T cs) (hi : cs.length = 3) (hb : Below w.heap.size w W) :
    Marked Try.prog Try.f58 (fun e' w' => e' = .returned (.tuple #[.agg cs.toArray, .int .i64 e]) ∧ Below w.heap.size w w') .ret a W := by
  refine marks_none hd (res_two rfl _ _ g T cs _ hp hg Try.underlying63 rfl (by rw [hi]; kernel_rfl)) ⟨?_, hb⟩
  rw [he]
set_option maxRecDepth 100000 in
set_option maxHeartbeats 4000000 in
theorem rfind_any (base g most : Nat) (L : List Iv) (hcc : Cont L) (hl32 : L.length ≤ 32) (q : Nat) (w : World) (h : isR w base g most L) :
    Calls Try.prog 58 #[.pointer (some ⟨g, 0, none⟩), .int .u64 (q : Int)] w fun e w' => e = .returned (rfinV L q) ∧ Below w.heap.size w w' := by
  have hb1 : Below w.heap.size w (w.alloc (.cells #[.int .u64 0, .int .u64 0, .string ⟨#[]⟩] 63)) := (Below.refl _ _).alloc (Nat.le_refl _) _
  have hz1 : arr (w.alloc (.cells #[.int .u64 0, .int .u64 0, .string ⟨#[]⟩] 63)) w.heap.size 63 zeroIv := arr.new w _ _
  obtain ⟨v, a0, r0, h3⟩ := h
  have hgw := a0.lt
  have hvb := r0.block
  have a1 := a0.keep hb1
  have r1 := r0.keep hb1
  clear a0 r0
  obtain ⟨rb, hrb⟩ : ∃ rb, rb = w.heap.size := ⟨_, rfl⟩
  rw [← hrb] at hz1
  have HRB := hid (show w.heap.size ≤ rb by omega)
  cases hx : L.getLast? with
  | none =>
    obtain rfl : L = [] := by simpa using hx
    obtain ⟨A, c, rfl, hc⟩ := r1.form
    have c1 := a1.cell 1 _ rfl
    have lg := a1.lt
    have HB := hid hb1
    have HZ := hid hz1
    clear a1 r1 hb1 hz1 hcc hx hvb
    refine calls_of_marks Try.func58 rfl ?_
    simp only [Try.ntmps58, List.size_toArray, List.length_cons, List.length_nil, Nat.reduceAdd, Nat.reduceSub, Array.replicate_succ, Array.replicate_zero, List.push_toArray, List.append_toArray, List.nil_append, List.cons_append]
    go_wp2_with fail
    rw [← hrb]
    clear hrb
    generalize (w.alloc (.cells #[.int .u64 0, .int .u64 0, .string ⟨#[]⟩] 63)) = w1 at c1 lg HB HZ ⊢
    refine wp_region_sq (fun W' => W' = w1.drew) [(true, 0), (true, 1), (true, 2), (true, 3), (true, 4), (true, 5), (true, 6), (true, 7), (true, 8), (true, 9), (true, 10), (true, 11), (true, 12), (true, 13), (true, 14), (true, 15), (true, 16), (true, 17), (true, 18), (true, 19), (true, 20), (true, 21)] 22 rfl (by kernel_rfl) (by kernel_rfl) (by kernel_rfl) (by decide) rfl (by kernel_rfl) rfl ?_
    refine sq_soft rfl (by kernel_rfl) (fun W hW => (by subst hW; go_simp; try rfl)) ?_; go_frame
    refine sq_soft rfl (by kernel_rfl) (fun W hW => (by subst hW; go_simp; try rfl)) ?_; go_frame
    refine sq_soft rfl (by kernel_rfl) (fun W hW => (by subst hW; go_simp; try rfl)) ?_; go_frame
    refine sq_soft rfl (by kernel_rfl) (fun W hW => (by subst hW; go_simp; try rfl)) ?_; go_frame
    refine sq_soft rfl (by kernel_rfl) (fun W hW => (by subst hW; go_simp; try rfl)) ?_; go_frame
    refine sq_soft rfl (by kernel_rfl) (fun W hW => (by subst hW; go_simp; try rfl)) ?_; go_frame
    refine sq_soft rfl (by kernel_rfl) (fun W hW => (by subst hW; go_simp; try rfl)) ?_; go_frame
    refine sq_skip rfl (by kernel_rfl) ?_; go_frame
    refine sq_skip rfl (by kernel_rfl) ?_; go_frame
    refine sq_skip rfl (by kernel_rfl) ?_; go_frame
    refine sq_skip rfl (by kernel_rfl) ?_; go_frame
    refine sq_skip rfl (by kernel_rfl) ?_; go_frame
    refine sq_skip rfl (by kernel_rfl) ?_; go_frame
    refine sq_skip rfl (by kernel_rfl) ?_; go_frame
    refine sq_skip rfl (by kernel_rfl) ?_; go_frame
    refine sq_skip rfl (by kernel_rfl) ?_; go_frame
    refine sq_skip rfl (by kernel_rfl) ?_; go_frame
    refine sq_skip rfl (by kernel_rfl) ?_; go_frame
    refine sq_skip rfl (by kernel_rfl) ?_; go_frame
    refine sq_skip rfl (by kernel_rfl) ?_; go_frame
    refine sq_skip rfl (by kernel_rfl) ?_; go_frame
    refine sq_skip rfl (by kernel_rfl) ?_; go_frame
    refine sched_done ?_
    have z0 := HZ.out.cell 0 _ rfl
    have z1 := HZ.out.cell 1 _ rfl
    have z2 := HZ.out.cell 2 _ rfl
    have g0 := HZ.out.free 0
    have g1 := HZ.out.free 1
    have g2 := HZ.out.free 2
    have lz := HZ.out.lt
    go_wp2
    have hv : rfinV [] q = .tuple #[.agg zeroIv.toArray, .int .i64 19] := rfl
    rw [hv]
    refine rfind_ret (cs := zeroIv) (e := 19) rfl rfl rfl ((((HZ.out.set 0 (.int .u64 0)).set 1 (.int .u64 0)).set 2 (.string ⟨#[]⟩)).drew) rfl ?_
    exact (((HB.out.setCell (p := ⟨rb, 0, none⟩) HRB.out _).setCell (p := ⟨rb, 1, none⟩) HRB.out _).setCell (p := ⟨rb, 2, none⟩) HRB.out _).drew
  | some z =>
    obtain ⟨n, hn⟩ : ∃ n, L.length = n + 1 := by
      cases L with
      | nil => simp at hx
      | cons a l => exact ⟨l.length, rfl⟩
    have hxn : L[n]? = some z := by rw [← hx, List.getLast?_eq_getElem?, hn]; rfl
    obtain ⟨b, off, cap, rfl, hc, hcm, lb, hcell⟩ := isR.cells (most := most) r1 (by omega)
    have hn63 : n < 9223372036854775807 := by omega
    obtain ⟨-, cx, -⟩ := hcell n z hxn
    have HCL := hid hcell
    have hrbb : rb ≠ b ∧ rb ≠ g := by
      have := (hvb b rfl).2
      omega
    have NE := hid hrbb
    rw [hn] at a1 hc
    have c1 := a1.cell 1 _ rfl
    have lg := a1.lt
    have hnI : ((n : Int) + 1) - 1 = (n : Int) := by omega
    have hnn1 : (n : Int) < (n : Int) + 1 := by omega
    have hwn : IntKind.i64.wrap (n : Int) = (n : Int) := by rw [IntKind.wrap_i64]; omega
    have HB := hid hb1
    have HZ := hid hz1
    have HCC := hid hcc
    have HX := hid hx
    have HN := hid hn
    obtain ⟨lz, hlz⟩ : ∃ lz, lz = z.2.1 := ⟨_, rfl⟩
    rw [← hlz] at cx
    have HLZ := hid hlz
    clear a1 r1 hb1 hz1 hcc hx hxn hcell hlz hn hl32 hvb hgw hrbb
    by_cases hq : lz < q
    · have hq' : (lz : Int) < (q : Int) := by omega
      refine calls_of_marks Try.func58 rfl ?_
      simp only [Try.ntmps58, List.size_toArray, List.length_cons, List.length_nil, Nat.reduceAdd, Nat.reduceSub, Array.replicate_succ, Array.replicate_zero, List.push_toArray, List.append_toArray, List.nil_append, List.cons_append]
      go_wp2_with fail
      rw [← hrb]
      clear hrb
      generalize (w.alloc (.cells #[.int .u64 0, .int .u64 0, .string ⟨#[]⟩] 63)) = w1 at c1 lg lb cx HB HZ HCL ⊢
      refine wp_region_sq (fun W' => W' = w1.drew) [(true, 0), (true, 1), (true, 2), (true, 3), (true, 4), (true, 5), (true, 6), (true, 7), (true, 8), (true, 9), (true, 10), (true, 11), (true, 12), (true, 13), (true, 14), (true, 15), (true, 16), (true, 17), (true, 18), (true, 19), (true, 20), (true, 21)] 22 rfl (by kernel_rfl) (by kernel_rfl) (by kernel_rfl) (by decide) rfl (by kernel_rfl) rfl ?_
      refine sq_soft rfl (by kernel_rfl) (fun W hW => (by subst hW; go_simp; try rfl)) ?_; go_frame
      refine sq_soft rfl (by kernel_rfl) (fun W hW => (by subst hW; go_simp; try rfl)) ?_; go_frame
      refine sq_soft rfl (by kernel_rfl) (fun W hW => (by subst hW; go_simp; try rfl)) ?_; go_frame
      refine sq_soft rfl (by kernel_rfl) (fun W hW => (by subst hW; go_simp; try rfl)) ?_; go_frame
      refine sq_soft rfl (by kernel_rfl) (fun W hW => (by subst hW; go_simp; try rfl)) ?_; go_frame
      refine sq_soft rfl (by kernel_rfl) (fun W hW => (by subst hW; go_simp; try rfl)) ?_; go_frame
      refine sq_soft rfl (by kernel_rfl) (fun W hW => (by subst hW; go_simp; try rfl)) ?_; go_frame
      refine sq_soft rfl (by kernel_rfl) (fun W hW => (by subst hW; go_simp; try rfl)) ?_; go_frame
      refine sq_soft rfl (by kernel_rfl) (fun W hW => (by subst hW; go_simp; try rfl)) ?_; go_frame
      refine sq_soft rfl (by kernel_rfl) (fun W hW => (by subst hW; go_simp; try rfl)) ?_; go_frame
      refine sq_soft rfl (by kernel_rfl) (fun W hW => (by subst hW; go_simp; try rfl)) ?_; go_frame
      refine sq_soft rfl (by kernel_rfl) (fun W hW => (by subst hW; go_simp; try rfl)) ?_; go_frame
      refine sq_soft rfl (by kernel_rfl) (fun W hW => (by subst hW; go_simp; try rfl)) ?_; go_frame
      refine sq_soft rfl (by kernel_rfl) (fun W hW => (by subst hW; go_simp; try rfl)) ?_; go_frame
      refine sq_soft rfl (by kernel_rfl) (fun W hW => (by subst hW; go_simp; try rfl)) ?_; go_frame
      refine sq_soft rfl (by kernel_rfl) (fun W hW => (by subst hW; go_simp; try rfl)) ?_; go_frame
      refine sq_soft rfl (by kernel_rfl) (fun W hW => (by subst hW; go_simp; try rfl)) ?_; go_frame
      refine sq_soft rfl (by kernel_rfl) (fun W hW => (by subst hW; go_simp; try rfl)) ?_; go_frame
      refine sq_soft rfl (by kernel_rfl) (fun W hW => (by subst hW; go_simp; try rfl)) ?_; go_frame
      refine sq_soft rfl (by kernel_rfl) (fun W hW => (by subst hW; go_simp; try rfl)) ?_; go_frame
      refine sq_soft rfl (by kernel_rfl) (fun W hW => (by subst hW; go_simp; try rfl)) ?_; go_frame
      refine sq_soft rfl (by kernel_rfl) (fun W hW => (by subst hW; go_simp; try rfl)) ?_; go_frame
      refine sched_done ?_
      have z0 := HZ.out.cell 0 _ rfl
      have z1 := HZ.out.cell 1 _ rfl
      have z2 := HZ.out.cell 2 _ rfl
      have g0 := HZ.out.free 0
      have g1 := HZ.out.free 1
      have g2 := HZ.out.free 2
      have lzz := HZ.out.lt
      have hbh := HCC.out.fin_behind q (fun y hy => by rw [HX.out] at hy; obtain rfl := Option.some.inj hy; rw [← HLZ.out]; exact hq)
      have hv : rfinV L q = .tuple #[.agg zeroIv.toArray, .int .i64 19] := by
        unfold rfinV
        rw [hbh.1, hbh.2]; rfl
      have HV := hid hv
      clear hv hbh
      go_wp2
      rw [HV.out]
      refine rfind_ret (cs := zeroIv) (e := 19) rfl rfl rfl ((((HZ.out.set 0 (.int .u64 0)).set 1 (.int .u64 0)).set 2 (.string ⟨#[]⟩)).drew) rfl ?_
      exact (((HB.out.setCell (p := ⟨rb, 0, none⟩) HRB.out _).setCell (p := ⟨rb, 1, none⟩) HRB.out _).setCell (p := ⟨rb, 2, none⟩) HRB.out _).drew
    · have hq' : ¬ (lz : Int) < (q : Int) := by omega
      refine calls_of_marks Try.func58 rfl ?_
      simp only [Try.ntmps58, List.size_toArray, List.length_cons, List.length_nil, Nat.reduceAdd, Nat.reduceSub, Array.replicate_succ, Array.replicate_zero, List.push_toArray, List.append_toArray, List.nil_append, List.cons_append]
      go_wp2_with fail
      rw [← hrb]
      clear hrb
      generalize (w.alloc (.cells #[.int .u64 0, .int .u64 0, .string ⟨#[]⟩] 63)) = w1 at c1 lg lb cx HB HZ HCL ⊢
      refine wp_region_sq (fun W' => W' = w1.drew) [(true, 0), (true, 1), (true, 2), (true, 3), (true, 4), (true, 5), (true, 6), (true, 7), (true, 8), (true, 9), (true, 10), (true, 11), (true, 12), (true, 13), (true, 14), (true, 15), (true, 16), (true, 17), (true, 18), (true, 19), (true, 20), (true, 21)] 22 rfl (by kernel_rfl) (by kernel_rfl) (by kernel_rfl) (by decide) rfl (by kernel_rfl) rfl ?_
      refine sq_soft rfl (by kernel_rfl) (fun W hW => (by subst hW; go_simp; try rfl)) ?_; go_frame
      refine sq_soft rfl (by kernel_rfl) (fun W hW => (by subst hW; go_simp; try rfl)) ?_; go_frame
      refine sq_soft rfl (by kernel_rfl) (fun W hW => (by subst hW; go_simp; try rfl)) ?_; go_frame
      refine sq_soft rfl (by kernel_rfl) (fun W hW => (by subst hW; go_simp; try rfl)) ?_; go_frame
      refine sq_soft rfl (by kernel_rfl) (fun W hW => (by subst hW; go_simp; try rfl)) ?_; go_frame
      refine sq_soft rfl (by kernel_rfl) (fun W hW => (by subst hW; go_simp; try rfl)) ?_; go_frame
      refine sq_soft rfl (by kernel_rfl) (fun W hW => (by subst hW; go_simp; try rfl)) ?_; go_frame
      refine sq_soft rfl (by kernel_rfl) (fun W hW => (by subst hW; go_simp; try rfl)) ?_; go_frame
      refine sq_soft rfl (by kernel_rfl) (fun W hW => (by subst hW; go_simp; try rfl)) ?_; go_frame
      refine sq_soft rfl (by kernel_rfl) (fun W hW => (by subst hW; go_simp; try rfl)) ?_; go_frame
      refine sq_soft rfl (by kernel_rfl) (fun W hW => (by subst hW; go_simp; try rfl)) ?_; go_frame
      refine sq_soft rfl (by kernel_rfl) (fun W hW => (by subst hW; go_simp; try rfl)) ?_; go_frame
      refine sq_soft rfl (by kernel_rfl) (fun W hW => (by subst hW; go_simp; try rfl)) ?_; go_frame
      refine sq_soft rfl (by kernel_rfl) (fun W hW => (by subst hW; go_simp; try rfl)) ?_; go_frame
      refine sq_soft rfl (by kernel_rfl) (fun W hW => (by subst hW; go_simp; try rfl)) ?_; go_frame
      refine sq_soft rfl (by kernel_rfl) (fun W hW => (by subst hW; go_simp; try rfl)) ?_; go_frame
      refine sq_soft rfl (by kernel_rfl) (fun W hW => (by subst hW; go_simp; try rfl)) ?_; go_frame
      refine sq_soft rfl (by kernel_rfl) (fun W hW => (by subst hW; go_simp; try rfl)) ?_; go_frame
      refine sq_soft rfl (by kernel_rfl) (fun W hW => (by subst hW; go_simp; try rfl)) ?_; go_frame
      refine sq_soft rfl (by kernel_rfl) (fun W hW => (by subst hW; go_simp; try rfl)) ?_; go_frame
      refine sq_soft rfl (by kernel_rfl) (fun W hW => (by subst hW; go_simp; try rfl)) ?_; go_frame
      refine sq_soft rfl (by kernel_rfl) (fun W hW => (by subst hW; go_simp; try rfl)) ?_; go_frame
      refine sched_done ?_
      have HB2 := hid HB.out.drew
      have HZ2 := hid HZ.out.drew
      have c12 : w1.drew.cell? ⟨g, 1, none⟩ = some (.slice (some ⟨b, off, none⟩) (n + 1) cap) := c1
      have lg2 : g < w1.drew.heap.size := lg
      have HCL2 : Hid (∀ (i : Nat) (x : Iv), L[i]? = some x → w1.drew.cell? ⟨b, off + i * 3, none⟩ = some (.int .u64 (x.1 : Int)) ∧ w1.drew.cell? ⟨b, off + i * 3 + 1, none⟩ = some (.int .u64 (x.2.1 : Int)) ∧ w1.drew.cell? ⟨b, off + i * 3 + 2, none⟩ = some (.string ⟨x.2.2.toArray⟩)) := HCL
      have lb2 : b < w1.drew.heap.size := lb
      go_wp2_with fail
      generalize World.drew w1 = w2 at HB2 HZ2 c12 lg2 HCL2 lb2 ⊢
      clear c1 lg lb cx HB HZ HCL hwn hnn1 hnI
      go_loopw [6] (fun i wr => ∃ k : Nat, k ≤ n + 1 ∧ i = .int .i64 k ∧ fin (L.take k) q = none ∧ wr = w2) (fun i _ => n + 1 - (intOf i).toNat)
      case atStart => exact ⟨0, by omega, rfl, rfl, rfl⟩
      case round =>
        obtain ⟨k, hk, rfl, hno, rfl⟩ := hrel
        have HNO := hid hno
        clear hno
        by_cases hlk : k < n + 1
        · have hlk' : (k : Int) < (n : Int) + 1 := by omega
          obtain ⟨x, hxk⟩ : ∃ x, L[k]? = some x := ⟨_, List.getElem?_eq_getElem (by have := HN.out; omega)⟩
          obtain ⟨y0, y1, y2⟩ := HCL2.out k x hxk
          have HXK := hid hxk
          have hpl : (L.take k).length = k := by have := HN.out; rw [List.length_take]; omega
          have HPL := hid hpl
          clear hxk hpl
          by_cases h1 : x.1 ≤ q
          · have h1' : (x.1 : Int) ≤ (q : Int) := by omega
            by_cases h2 : q ≤ x.2.1
            · have h2' : (q : Int) ≤ (x.2.1 : Int) := by omega
              have z0 := HZ2.out.cell 0 _ rfl
              have z1 := HZ2.out.cell 1 _ rfl
              have z2 := HZ2.out.cell 2 _ rfl
              have g0 := HZ2.out.free 0
              have g1 := HZ2.out.free 1
              have g2 := HZ2.out.free 2
              have lzz := HZ2.out.lt
              have hf := fin_at_first (L := L) (pre := L.take k) (by rw [HPL.out]) HNO.out (by rw [HPL.out]; exact HXK.out) (show hasR q x = true by simp [hasR, h1, h2])
              have hv : rfinV L q = .tuple #[.agg (ivCells x).toArray, .int .i64 0] := by
                unfold rfinV
                rw [hf]
              have HV := hid hv
              clear hv hf
              go_wp2
              rw [HV.out]
              refine rfind_ret (cs := ivCells x) (e := 0) rfl rfl rfl (((HZ2.out.set 0 (.int .u64 (x.1 : Int))).set 1 (.int .u64 (x.2.1 : Int))).set 2 (.string ⟨x.2.2.toArray⟩)) rfl ?_
              exact ((HB2.out.setCell (p := ⟨rb, 0, none⟩) HRB.out _).setCell (p := ⟨rb, 1, none⟩) HRB.out _).setCell (p := ⟨rb, 2, none⟩) HRB.out _
            · have h2' : ¬ (q : Int) ≤ (x.2.1 : Int) := by omega
              have hf := fin_next HNO.out (show hasR q x = false by simp [hasR]; omega)
              have hp := (pre_next (L := L) (pre := L.take k) (by rw [HPL.out]) (by rw [HPL.out]; exact HXK.out)).1
              rw [List.length_append, HPL.out] at hp
              rw [hp] at hf
              have HF := hid hf
              clear hf hp
              go_wp2
              go_roundw
              case rel => exact ⟨k + 1, by omega, by go_num, HF.out, by trivial⟩
              case measure => simp [intOf]; omega
          · have h1' : ¬ (x.1 : Int) ≤ (q : Int) := by omega
            have hf := fin_next HNO.out (show hasR q x = false by simp [hasR]; omega)
            have hp := (pre_next (L := L) (pre := L.take k) (by rw [HPL.out]) (by rw [HPL.out]; exact HXK.out)).1
            rw [List.length_append, HPL.out] at hp
            rw [hp] at hf
            have HF := hid hf
            clear hf hp
            go_wp2
            go_roundw
            case rel => exact ⟨k + 1, by omega, by go_num, HF.out, by trivial⟩
            case measure => simp [intOf]; omega
        · obtain rfl : k = n + 1 := by omega
          have z0 := HZ2.out.cell 0 _ rfl
          have z1 := HZ2.out.cell 1 _ rfl
          have z2 := HZ2.out.cell 2 _ rfl
          have g0 := HZ2.out.free 0
          have g1 := HZ2.out.free 1
          have g2 := HZ2.out.free 2
          have lzz := HZ2.out.lt
          have hf : fin L q = none := by have := HNO.out; rwa [List.take_of_length_le (by have := HN.out; omega)] at this
          have hv : rfinV L q = .tuple #[.agg zeroIv.toArray, .int .i64 16] := by
            unfold rfinV
            rw [hf, finE_finR HCC.out]
            unfold finR
            rw [HX.out]
            simp only
            rw [if_neg (by rw [← HLZ.out]; exact hq), hf]
            rfl
          have HV := hid hv
          clear hv hf
          go_wp2
          rw [HV.out]
          refine rfind_ret (cs := zeroIv) (e := 16) rfl rfl rfl (((HZ2.out.set 0 (.int .u64 0)).set 1 (.int .u64 0)).set 2 (.string ⟨#[]⟩)) rfl ?_
          exact ((HB2.out.setCell (p := ⟨rb, 0, none⟩) HRB.out _).setCell (p := ⟨rb, 1, none⟩) HRB.out _).setCell (p := ⟨rb, 2, none⟩) HRB.out _
/-- the list's cell that is read -/
structure DS (g b off n cap k : Nat) (x : Iv) (W : World) : Prop where
  c1 : W.cell? ⟨g, 1, none⟩ = some (.slice (some ⟨b, off, none⟩) n cap)
  lg : g < W.heap.size
  y0 : W.cell? ⟨b, off + k * 3, none⟩ = some (.int .u64 (x.1 : Int))
  y1 : W.cell? ⟨b, off + k * 3 + 1, none⟩ = some (.int .u64 (x.2.1 : Int))
  y2 : W.cell? ⟨b, off + k * 3 + 2, none⟩ = some (.string ⟨x.2.2.toArray⟩)
  lb : b < W.heap.size
theorem DS.keep {g b off n cap k : Nat} {x : Iv} {W W' : World} (h : DS g b off n cap k x W) (hb : Below W.heap.size W W') : DS g b off n cap k x W' :=
  ⟨(hb.cell (p := ⟨g, 1, none⟩) h.lg).trans h.c1, Nat.lt_of_lt_of_le h.lg hb.size, (hb.cell (p := ⟨b, _, none⟩) h.lb).trans h.y0, (hb.cell (p := ⟨b, _, none⟩) h.lb).trans h.y1, (hb.cell (p := ⟨b, _, none⟩) h.lb).trans h.y2, Nat.lt_of_lt_of_le h.lb hb.size⟩
theorem ownS_form {w : World} {base : Nat} {v : Value} {L : List (List UInt8)} (h : ownS w base v L) : ∃ A c, v = .slice A L.length c := row_form h
set_option maxRecDepth 100000 in
set_option maxHeartbeats 4000000 in
theorem rdigest_any (base g most : Nat) (L : List Iv) (hcc : Cont L) (hl32 : L.length ≤ 32) (w : World) (h : isR w base g most L) :
    Calls Try.prog 62 #[.pointer (some ⟨g, 0, none⟩)] w fun e w' => e = .returned (.string ⟨(wdig L).toArray⟩) ∧ Below w.heap.size w w' := by
  have H := hid h
  obtain ⟨v, a1, r1, h3⟩ := h
  obtain ⟨A, c, rfl, hc⟩ := r1.form
  have c1 := a1.cell 1 _ rfl
  have lg := a1.lt
  have HCC := hid hcc
  clear a1 r1 hcc
  go_enter Try.func62, Try.ntmps62
  obtain ⟨n, hn⟩ : ∃ n, n = L.length := ⟨_, rfl⟩
  rw [← hn] at c1 hc hl32
  have HN := hid hn
  clear hn
  go_wp2_with fail
  refine (refNum_nat n (by omega) w).mono ?_
  rintro e w1 ⟨rfl, hb1⟩
  obtain ⟨w2, hw2⟩ : ∃ w2, w2 = w1.alloc (.cells #[.string ⟨(b8 n).toArray⟩] 9) := ⟨_, rfl⟩
  have hal : Below w1.heap.size w1 w2 := by rw [hw2]; exact (Below.refl _ _).alloc (Nat.le_refl _) _
  have O2 : ownS w2 w.heap.size (.slice (some ⟨w1.heap.size, 0, none⟩) 1 1) (wpre n []) := by rw [hw2]; exact ownS.lit w1 w.heap.size [b8 n] hb1.size (by simp)
  have B2 := hid (below_all hb1 hal)
  have HO2 := hid O2
  clear O2 hal hb1 c1 lg
  go_wp2_with fail
  rw [← hw2]
  clear hw2
  go_loopw [3, 4] (fun u i wr => ∃ k : Nat, k ≤ n ∧ i = .int .i64 k ∧ ownS wr w.heap.size u (wpre n (L.take k)) ∧ Below w.heap.size w wr) (fun _ i _ => n - (intOf i).toNat)
  case atStart => exact ⟨0, by omega, rfl, HO2.out, B2.out⟩
  case round =>
    obtain ⟨k, hk, rfl, ho, hb⟩ := hrel
    have HO := hid ho
    have HB := hid hb
    obtain ⟨v, a1, r1, -⟩ := H.out.keep hb
    clear ho hb
    by_cases hlk : k < n
    · have hlk' : (k : Int) < (n : Int) := by omega
      obtain ⟨x, hxk⟩ : ∃ x, L[k]? = some x := ⟨_, List.getElem?_eq_getElem (by have := HN.out; omega)⟩
      obtain ⟨b, off, cap, rfl, hcl, hcm, lb, hcell⟩ := isR.cells (most := most) r1 (by have := HN.out; omega)
      obtain ⟨y0, y1, y2⟩ := hcell k x hxk
      rw [← HN.out] at a1 hcl
      have c1 := a1.cell 1 _ rfl
      have lg := a1.lt
      have hxok := HCC.out.ok x (List.mem_of_getElem? hxk)
      obtain ⟨k1, k2, k3, k4⟩ := hxok
      have hpl : (L.take k).length = k := by have := HN.out; rw [List.length_take]; omega
      have hnext : wpre n (L.take (k + 1)) = wpre n (L.take k) ++ [b8 x.1, b8 x.2.1, x.2.2] := by
        have hp := (pre_next (L := L) (pre := L.take k) (by rw [hpl]) (by rw [hpl]; exact hxk)).1
        rw [List.length_append, hpl] at hp
        rw [← wpre_next, ← List.length_singleton (a := x), ← hp]
      have HNX := hid hnext
      have hwl := hid (show (wpre n (L.take k)).length = 1 + 3 * k by rw [wpre_len, hpl])
      clear a1 r1 hcell hxk hpl hnext HO2 B2
      go_wp2_with fail
      have hS : DS g b off n cap k x wr := ⟨c1, lg, y0, y1, y2, lb⟩
      have hS0 := hS.keep (Below.refl wr.heap.size wr).drew
      have HS0 := hid hS0
      refine wp_region_sq (fun W' => DS g b off n cap k x W') [(true, 0), (true, 1), (true, 2), (true, 3), (true, 4), (true, 5), (true, 6), (true, 7), (true, 8), (true, 10), (true, 11), (true, 12), (true, 13), (true, 14), (true, 15), (true, 16), (true, 17), (true, 19), (true, 20), (true, 21), (true, 22), (true, 23), (true, 24), (true, 25), (true, 26), (false, 9), (false, 18), (false, 27)] 28 rfl (by kernel_rfl) (by kernel_rfl) (by kernel_rfl) (by decide) rfl (by kernel_rfl) hS0 ?_
      clear hS hS0 c1 lg y0 y1 y2 lb
      have B3 := hid (HB.out.drew)
      have O3 := hid (row_below HO.out (Below.refl wr.heap.size wr).drew)
      generalize World.drew wr = W3 at HS0 B3 O3 ⊢
      refine sq_soft rfl (by kernel_rfl) (fun W hW => (by have hc1 := hW.c1; have hlg := hW.lg; have hy0 := hW.y0; have hy1 := hW.y1; have hy2 := hW.y2; have hlb := hW.lb; clear hW; go_simp; try rfl)) ?_; go_frame
      refine sq_soft rfl (by kernel_rfl) (fun W hW => (by have hc1 := hW.c1; have hlg := hW.lg; have hy0 := hW.y0; have hy1 := hW.y1; have hy2 := hW.y2; have hlb := hW.lb; clear hW; go_simp; try rfl)) ?_; go_frame
      refine sq_soft rfl (by kernel_rfl) (fun W hW => (by have hc1 := hW.c1; have hlg := hW.lg; have hy0 := hW.y0; have hy1 := hW.y1; have hy2 := hW.y2; have hlb := hW.lb; clear hW; go_simp; try rfl)) ?_; go_frame
      refine sq_soft rfl (by kernel_rfl) (fun W hW => (by have hc1 := hW.c1; have hlg := hW.lg; have hy0 := hW.y0; have hy1 := hW.y1; have hy2 := hW.y2; have hlb := hW.lb; clear hW; go_simp; try rfl)) ?_; go_frame
      refine sq_soft rfl (by kernel_rfl) (fun W hW => (by have hc1 := hW.c1; have hlg := hW.lg; have hy0 := hW.y0; have hy1 := hW.y1; have hy2 := hW.y2; have hlb := hW.lb; clear hW; go_simp; try rfl)) ?_; go_frame
      refine sq_soft rfl (by kernel_rfl) (fun W hW => (by have hc1 := hW.c1; have hlg := hW.lg; have hy0 := hW.y0; have hy1 := hW.y1; have hy2 := hW.y2; have hlb := hW.lb; clear hW; go_simp; try rfl)) ?_; go_frame
      refine sq_soft rfl (by kernel_rfl) (fun W hW => (by have hc1 := hW.c1; have hlg := hW.lg; have hy0 := hW.y0; have hy1 := hW.y1; have hy2 := hW.y2; have hlb := hW.lb; clear hW; go_simp; try rfl)) ?_; go_frame
      refine sq_soft rfl (by kernel_rfl) (fun W hW => (by have hc1 := hW.c1; have hlg := hW.lg; have hy0 := hW.y0; have hy1 := hW.y1; have hy2 := hW.y2; have hlb := hW.lb; clear hW; go_simp; try rfl)) ?_; go_frame
      refine sq_soft rfl (by kernel_rfl) (fun W hW => (by have hc1 := hW.c1; have hlg := hW.lg; have hy0 := hW.y0; have hy1 := hW.y1; have hy2 := hW.y2; have hlb := hW.lb; clear hW; go_simp; try rfl)) ?_; go_frame
      refine sq_soft rfl (by kernel_rfl) (fun W hW => (by have hc1 := hW.c1; have hlg := hW.lg; have hy0 := hW.y0; have hy1 := hW.y1; have hy2 := hW.y2; have hlb := hW.lb; clear hW; go_simp; try rfl)) ?_; go_frame
      refine sq_soft rfl (by kernel_rfl) (fun W hW => (by have hc1 := hW.c1; have hlg := hW.lg; have hy0 := hW.y0; have hy1 := hW.y1; have hy2 := hW.y2; have hlb := hW.lb; clear hW; go_simp; try rfl)) ?_; go_frame
      refine sq_soft rfl (by kernel_rfl) (fun W hW => (by have hc1 := hW.c1; have hlg := hW.lg; have hy0 := hW.y0; have hy1 := hW.y1; have hy2 := hW.y2; have hlb := hW.lb; clear hW; go_simp; try rfl)) ?_; go_frame
      refine sq_soft rfl (by kernel_rfl) (fun W hW => (by have hc1 := hW.c1; have hlg := hW.lg; have hy0 := hW.y0; have hy1 := hW.y1; have hy2 := hW.y2; have hlb := hW.lb; clear hW; go_simp; try rfl)) ?_; go_frame
      refine sq_soft rfl (by kernel_rfl) (fun W hW => (by have hc1 := hW.c1; have hlg := hW.lg; have hy0 := hW.y0; have hy1 := hW.y1; have hy2 := hW.y2; have hlb := hW.lb; clear hW; go_simp; try rfl)) ?_; go_frame
      refine sq_soft rfl (by kernel_rfl) (fun W hW => (by have hc1 := hW.c1; have hlg := hW.lg; have hy0 := hW.y0; have hy1 := hW.y1; have hy2 := hW.y2; have hlb := hW.lb; clear hW; go_simp; try rfl)) ?_; go_frame
      refine sq_soft rfl (by kernel_rfl) (fun W hW => (by have hc1 := hW.c1; have hlg := hW.lg; have hy0 := hW.y0; have hy1 := hW.y1; have hy2 := hW.y2; have hlb := hW.lb; clear hW; go_simp; try rfl)) ?_; go_frame
      refine sq_soft rfl (by kernel_rfl) (fun W hW => (by have hc1 := hW.c1; have hlg := hW.lg; have hy0 := hW.y0; have hy1 := hW.y1; have hy2 := hW.y2; have hlb := hW.lb; clear hW; go_simp; try rfl)) ?_; go_frame
      refine sq_soft rfl (by kernel_rfl) (fun W hW => (by have hc1 := hW.c1; have hlg := hW.lg; have hy0 := hW.y0; have hy1 := hW.y1; have hy2 := hW.y2; have hlb := hW.lb; clear hW; go_simp; try rfl)) ?_; go_frame
      refine sq_soft rfl (by kernel_rfl) (fun W hW => (by have hc1 := hW.c1; have hlg := hW.lg; have hy0 := hW.y0; have hy1 := hW.y1; have hy2 := hW.y2; have hlb := hW.lb; clear hW; go_simp; try rfl)) ?_; go_frame
      refine sq_soft rfl (by kernel_rfl) (fun W hW => (by have hc1 := hW.c1; have hlg := hW.lg; have hy0 := hW.y0; have hy1 := hW.y1; have hy2 := hW.y2; have hlb := hW.lb; clear hW; go_simp; try rfl)) ?_; go_frame
      refine sq_soft rfl (by kernel_rfl) (fun W hW => (by have hc1 := hW.c1; have hlg := hW.lg; have hy0 := hW.y0; have hy1 := hW.y1; have hy2 := hW.y2; have hlb := hW.lb; clear hW; go_simp; try rfl)) ?_; go_frame
      refine sq_soft rfl (by kernel_rfl) (fun W hW => (by have hc1 := hW.c1; have hlg := hW.lg; have hy0 := hW.y0; have hy1 := hW.y1; have hy2 := hW.y2; have hlb := hW.lb; clear hW; go_simp; try rfl)) ?_; go_frame
      refine sq_soft rfl (by kernel_rfl) (fun W hW => (by have hc1 := hW.c1; have hlg := hW.lg; have hy0 := hW.y0; have hy1 := hW.y1; have hy2 := hW.y2; have hlb := hW.lb; clear hW; go_simp; try rfl)) ?_; go_frame
      refine sq_soft rfl (by kernel_rfl) (fun W hW => (by have hc1 := hW.c1; have hlg := hW.lg; have hy0 := hW.y0; have hy1 := hW.y1; have hy2 := hW.y2; have hlb := hW.lb; clear hW; go_simp; try rfl)) ?_; go_frame
      refine sq_soft rfl (by kernel_rfl) (fun W hW => (by have hc1 := hW.c1; have hlg := hW.lg; have hy0 := hW.y0; have hy1 := hW.y1; have hy2 := hW.y2; have hlb := hW.lb; clear hW; go_simp; try rfl)) ?_; go_frame
      refine sq_op rfl (by kernel_rfl) ?_
      go_simp
      refine (refNum_nat x.1 (by omega) W3).mono ?_
      rintro e W4 ⟨rfl, hb4⟩
      have S4 := hid (HS0.out.keep hb4)
      have B4 := hid (below_all B3.out hb4)
      have O4 := hid (row_below O3.out hb4)
      refine ⟨S4.out, ?_⟩
      clear hb4 HS0 B3 O3
      try go_frame
      refine sq_op rfl (by kernel_rfl) ?_
      go_simp
      refine (refNum_nat x.2.1 (by omega) W4).mono ?_
      rintro e W5 ⟨rfl, hb5⟩
      have S5 := hid (S4.out.keep hb5)
      have B5 := hid (below_all B4.out hb5)
      have O5 := hid (row_below O4.out hb5)
      refine ⟨S5.out, ?_⟩
      clear hb5 S4 B4 O4
      try go_frame
      refine sq_op rfl (by kernel_rfl) ?_
      go_simp
      obtain ⟨W6, hW6⟩ : ∃ W6, W6 = W5.alloc (.cells #[.string ⟨(b8 x.1).toArray⟩, .string ⟨(b8 x.2.1).toArray⟩, .string ⟨x.2.2.toArray⟩] 9) := ⟨_, rfl⟩
      have hal6 : Below W5.heap.size W5 W6 := by rw [hW6]; exact (Below.refl _ _).alloc (Nat.le_refl _) _
      have N6 : arr W6 W5.heap.size 9 (scs [b8 x.1, b8 x.2.1, x.2.2]) := by rw [hW6]; exact arr.new W5 _ _
      have S6 := S5.out.keep hal6
      have B6 := hid (below_all B5.out hal6)
      have O6 := hid (row_below O5.out hal6)
      have HN6 := hid N6
      rw [← hW6]
      refine ⟨S6, ?_⟩
      clear hW6 hal6 N6 S6 S5 B5 O5
      try go_frame
      refine sched_done ?_
      go_wp2_with ((at_builtin; go_must (refine ownS_append rfl _ _ rfl w.heap.size _ (wpre n (L.take k)) [b8 x.1, b8 x.2.1, x.2.2] rfl O6.out W5.heap.size 0 3 rfl (by intro j hj; rw [Nat.zero_add]; exact HN6.out.cell j _ (scs_get _ _ hj)) (by have h := hwl.out; rw [h]; simp; omega) B6.out.size ?_); intro v7 w7 ho7 hg7; have O7 := hid ho7; have G7 := hid hg7; clear ho7 hg7))
      go_roundw
      case rel => exact ⟨k + 1, by omega, by go_num, by rw [HNX.out]; exact O7.out, B6.out.grown G7.out B6.out.size (fun j hj => (row_lt O6.out j hj).1)⟩
      case measure => simp [intOf]; omega
    · obtain rfl : k = n := by omega
      have hTk : L.take k = L := List.take_of_length_le (by have := HN.out; omega)
      have ov : ownS wr w.heap.size u3 (wpre L.length L) := by have := HO.out; rw [hTk] at this; rw [← HN.out]; exact this
      have hlp := wpre_len L.length L
      have htx : ∀ s ∈ wpre L.length L, s.length ≤ 32 := by
        intro s hs
        rcases List.mem_cons.1 hs with rfl | hs
        · rw [b8_len]; omega
        · obtain ⟨p, hp, hsp⟩ := List.mem_flatten.1 hs
          obtain ⟨x, hx, rfl⟩ := List.mem_map.1 hp
          have hk := (HCC.out.ok x hx).1
          simp only [ivParts, List.mem_cons, List.not_mem_nil, or_false] at hsp
          rcases hsp with rfl | rfl | rfl
          · rw [b8_len]; omega
          · rw [b8_len]; omega
          · omega
      have hfp := fparts_len (wpre L.length L) 32 htx
      have hst := ownS.strs ov (fun s hs => by have := htx s hs; omega)
      have hcall := refHash_any tWindow (wpre L.length L) _ wr hst (by decide) (by rw [hlp] at hfp; have := HN.out; omega) (fun s hs => by have := htx s hs; omega)
      have HC := hid hcall
      obtain ⟨A2, c2, rfl, -⟩ := r1.form
      rw [← HN.out] at a1
      have c1 := a1.cell 1 _ rfl
      have lg := a1.lt
      clear hcall hst hfp htx hlp ov a1 r1
      go_wp2_with fail
      refine HC.out.mono ?_
      rintro e W9 ⟨rfl, hb9⟩
      have B9 := hid (below_all HB.out hb9)
      clear hb9 HC
      go_wp2
      go_ret
      exact ⟨rfl, B9.out⟩
end Go.Proofs.Ytcfohdkdppiekaa
