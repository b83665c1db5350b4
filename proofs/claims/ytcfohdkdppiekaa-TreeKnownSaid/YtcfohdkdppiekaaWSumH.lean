/- A hasher's sum. -/
import Derived.Test.YtcfohdkdppiekaaWCopyH
import Derived.Test.YtcfohdkdppiekaaWSum
namespace Go.Proofs.Ytcfohdkdppiekaa
open Go.RowKit Go.Proofs
theorem wpList_b2s {ops : Array Oper} {rest : List Oper} {o : Oper} {a : Act} {w : World} {Q : Exit → Act → World → Prop} (hgd : o.guard = none) (x : Operand) (ho : o.op = .convert 22 9 x) (b off n cap : Nat) (l : List UInt8)
    (hx : a.eval x = .slice (some ⟨b, off, none⟩) n cap) (hl : l.length = n) (hc : ∀ i, i < l.length → w.cell? ⟨b, off + i, none⟩ = some (.int .u8 ((l.getD i 0).toNat : Int)))
    (h : wpList Try.prog ops Q rest (a.put o.dst (.string ⟨l.toArray⟩)) w) : wpList Try.prog ops Q (o :: rest) a w := by
  refine wpList_plain hgd fun K hK => ?_
  have := b2s_run w b off n cap l hl (fun i hi => hc i (by omega))
  unfold Oper.wp
  simp only [execOp, ho, hx, Sem.run_bind, this, Result.andThen_ok, Sem.run_pure]
  exact hK _ _ h
/-- how many bytes the hasher in block g has, by its last cell -/
def cntAt (w : World) (g : Nat) : Int := match w.cell? ⟨g, 72, none⟩ with | some (.int _ n) => n | _ => 0
theorem isH.cnt {w : World} {g : Nat} {l : List UInt8} (h : isH w g l) : cntAt w g = (l.length : Int) := by
  obtain ⟨q, hq, ha⟩ := h
  unfold cntAt
  rw [ha.cell 72 _ (hcs_last _ q _ hq.len)]
theorem isH.other {w : World} {g : Nat} {l : List UInt8} (h : isH w g l) (a : Addr) (ha : a.block ≠ g) (v : Value) : isH (w.setCell a v) g l := by
  obtain ⟨q, hq, hh⟩ := h
  exact ⟨q, hq, hh.other a ha v⟩
/-- the first k of a number's eight bytes, and noughts -/
def b8c (n k : Nat) : List Value := bcs ((b8 n).take k ++ List.replicate (8 - k) 0)
theorem b8c_all (n : Nat) : b8c n 8 = bcs (b8 n) := by
  unfold b8c
  rw [List.take_of_length_le (by simp [b8])]
  simp
theorem b8c_len (n k : Nat) (hk : k ≤ 8) : (b8c n k).length = 8 := by simp [b8c, bcs_len, b8]; omega
theorem b8c_set (n k : Nat) (hk : k < 8) : (b8c n k).set k (.int .u8 (((n / 2 ^ (56 - 8 * k)) % 256 : Nat) : Int)) = b8c n (k + 1) := by
  have e := b_eq (n / 2 ^ (56 - 8 * k))
  rw [e]
  match k, hk with
  | 0, _ => rfl
  | 1, _ => rfl
  | 2, _ => rfl
  | 3, _ => rfl
  | 4, _ => rfl
  | 5, _ => rfl
  | 6, _ => rfl
  | 7, _ => simp [b8c, b8, bcs]
theorem slice_eight (W : World) (g : Nat) :
    (Instr.sliceAt 141 (.pointer (some ⟨g, 0, none⟩)) none none none).run Try.prog W = .ok (.slice (some ⟨g, 0, none⟩) 8 8) W := by
  have hl : Try.prog.arrayLen 141 = 8 := by kernel_rfl
  have hs : (sizeOf (Try.prog.elem 141)).run Try.prog W = .ok 1 W := by kernel_rfl
  have := run_sliceAt_array_all (P := Try.prog) W 141 ⟨g, 0, none⟩ (by kernel_rfl)
  rw [this, hl, hs]
  simp [Result.andThen, slicedAt, Addr.add]
set_option maxRecDepth 100000 in
set_option maxHeartbeats 2000000 in
theorem sumH_any (l : List UInt8) (hl : l.length ≤ 900000000000) (g : Nat) (w : World) (hw : isH w g l) :
    Calls Try.prog 36 #[.pointer (some ⟨g, 0, none⟩)] w fun e w' => e = .returned (.string ⟨(sha l).toArray⟩) ∧ Below w.heap.size w w' := by
  obtain ⟨q, hq, ha⟩ := hw
  have HQ := hid hq
  clear hq
  have kc := conv1
  go_enter Try.func36, Try.ntmps36
  obtain ⟨G, hG⟩ : ∃ G, G = w.heap.size := ⟨_, rfl⟩
  have HG := hid hG
  go_wp2_with (first
    | (refine wpList_load_part rfl 139 _ rfl g 0 rfl (hcs (blks st0 l (l.length / 64)) q [.int .u64 (l.length : Int)]) _ (fun j v h => ha.cell _ _ (hcs_get _ _ _ j v h)) Try.underlying139 rfl (hcs_info _ _ _ HQ.out.len) ?_)
    | (refine wpList_store_arr rfl 139 _ _ rfl _ (hcs (blks st0 l (l.length / 64)) q [.int .u64 (l.length : Int)]) rfl rfl _ _ (arr.new _ _ zeroH) (hcs_info _ _ _ HQ.out.len) (by rw [hcs_len _ _ _ HQ.out.len]; exact zeroH_len) (hcs_one _ _ _ _) ?_; intro w1 hw1; have HW1 := hid hw1; clear hw1; have a1 : arr w1 w.heap.size 139 (hcs (blks st0 l (l.length / 64)) q [.int .u64 (l.length : Int)]) := (by rw [HW1.out]; exact (arr.new _ _ zeroH).row _); have d72 := a1.cell 72 _ (hcs_last _ q _ HQ.out.len))
    | (go_at_call 35; refine (write_any l [128] (by simp; omega) w.heap.size _ ⟨q, HQ.out, a1.alloc _⟩).mono ?_; rintro e w2 ⟨rfl, hh2, hg2⟩))
  have bw2 : Below G w w2 := by
    have h1 : Below G w w1 := by rw [HW1.out]; exact below_setRow' ((Below.refl _ _).alloc (by omega) _) (by omega) _
    have h2 := h1.size
    refine below_grown (h1.alloc (by omega) _) hg2 (by simp; omega) (by omega)
  rw [← hG] at hh2 ⊢
  clear hG hg2 a1 d72 HW1 ha kc
  have hnz : nzs l.length < 64 := Nat.mod_lt _ (by decide)
  go_loopw [] (fun wr => ∃ z : Nat, z ≤ nzs l.length ∧ isH wr G (l ++ 128 :: List.replicate z 0) ∧ Below G w wr) (fun wr => ((nzs l.length : Int) + (l.length : Int) + 1 - cntAt wr G).toNat)
  case atStart => exact ⟨0, by omega, by simpa using hh2, bw2⟩
  case round =>
    clear hh2 bw2
    obtain ⟨z, hz, hh, hbel⟩ := hrel
    obtain ⟨m, hm⟩ : ∃ m, m = l ++ 128 :: List.replicate z 0 := ⟨_, rfl⟩
    have hmlen : m.length = l.length + 1 + z := by rw [hm]; simp; omega
    have hmb : m.length ≤ 950000000000 := by omega
    rw [← hm] at hh
    have hcn := hh.cnt
    have HH := hid hh
    obtain ⟨q', hq', ha'⟩ := hh
    have c72 := ha'.cell 72 _ (hcs_last _ q' _ hq'.len)
    have HM := hid hm
    have HML := hid hmlen
    have HCN := hid hcn
    clear hm ha' hq' hcn
    by_cases hlt : z < nzs l.length
    · have ht : ((m.length : Int) % 64 != 56) = true := by
        rw [bne_iff_ne]; unfold nzs at hlt; omega
      clear hmlen
      go_wp2_with (go_at_call 35; refine (write_any m [0] (by simp; omega) G _ HH.out).mono ?_; rintro e w3 ⟨rfl, hh3, hg3⟩)
      go_roundw
      case rel =>
        refine ⟨z + 1, by omega, ?_, below_grown hbel hg3 (by have := HH.out.lt; omega) (by omega)⟩
        rw [HM.out] at hh3
        simpa [List.replicate_succ'] using hh3
      case measure =>
        have e1 := HCN.out
        have e2 := hh3.cnt
        have e3 := HML.out
        rw [e1, e2]
        simp; omega
    · have ht : ((m.length : Int) % 64 != 56) = false := by
        rw [bne_eq_false_iff_eq]; unfold nzs at hlt hz; omega
      clear hmlen
      go_wp2
      obtain ⟨E, hE⟩ : ∃ E, E = wr.heap.size := ⟨_, rfl⟩
      have hGE : G < E := by rw [hE]; exact HH.out.lt
      have HZ : Hid (z = nzs l.length) := by show _ = _; omega
      go_loopw [26] (fun i w4 => ∃ k : Nat, k ≤ 8 ∧ i = .int .i64 k ∧ isH w4 G m ∧ Below G w w4 ∧ arr w4 E 141 (b8c (l.length * 8) k)) (fun i _ => 8 - (intOf i).toNat)
      case atStart => exact ⟨0, by omega, rfl, HH.out.keep ((Below.refl _ _).alloc (Nat.le_refl _) _), hbel.alloc (by omega) _, arr.newAt _ _ (b8c (l.length * 8) 0) _ hE⟩
      case round =>
        rw [← hE] at *
        clear hE hlt hz hbel c72 ht
        obtain ⟨k, hk, rfl, hh4, bw4, a4⟩ := hrel
        by_cases hlk : k < 8
        · have hlk' : (k : Int) < 8 := by omega
          have ck : ∃ v, (b8c (l.length * 8) k)[k]? = some v := ⟨_, List.getElem?_eq_getElem (by rw [b8c_len _ _ hk]; omega)⟩
          obtain ⟨v0, hv0⟩ := ck
          have c4 := a4.cell k v0 hv0
          have f4 := a4.free k
          clear hv0
          have hsh : 0 ≤ 8 * (7 - (k : Int)) := by omega
          go_wp2
          go_roundw
          case rel =>
            have e1 : ((l.length : Int) * 8 / 2 ^ (8 * (7 - k)) % 256) = ((l.length * 8 / 2 ^ (56 - 8 * k) % 256 : Nat) : Int) := by
              rw [show 8 * (7 - k) = 56 - 8 * k by omega]; simp
            rw [e1]
            refine ⟨k + 1, by omega, by go_num, hh4.other _ (by simp; omega) _, bw4.setCell (by simp; omega) _, ?_⟩
            rw [← b8c_set _ _ hlk]
            exact a4.set k _
          case measure => simp [intOf]; omega
        · obtain rfl : k = 8 := by omega
          rw [b8c_all] at a4
          have hpad : m ++ b8 (l.length * 8) = pad l := by
            have e2 : 8 * l.length % 18446744073709551616 = l.length * 8 := by rw [Nat.mod_eq_of_lt (by omega)]; omega
            rw [HM.out, HZ.out, pad, e2]
          have HPAD := hid hpad
          have hs8 := fun W => slice_eight W E
          clear hpad hlk hk
          go_wp2_with (first | (refine wpList_b2s rfl _ rfl E 0 8 8 (b8 (l.length * 8)) rfl rfl (fun i hi => (by rw [Nat.zero_add]; exact a4.cell i _ (bcs_get _ i hi))) ?_) | (go_at_call 35; refine (write_any m (b8 (l.length * 8)) (by simp [b8]; omega) G _ hh4).mono ?_; rintro e w5 ⟨rfl, hh5, hg5⟩; rw [HPAD.out] at hh5; obtain ⟨q5, hq5, a5⟩ := hh5) | (refine wpList_load_part rfl 135 _ rfl G 0 rfl (blks st0 (pad l) ((pad l).length / 64)).cells _ (fun j v h => a5.cell _ _ (hcs_cells _ _ _ j v h)) Try.underlying135 rfl (St.state_info _) ?_))
          have hgl4 := hh4.lt
          have bw5 : Below G w w5 := below_grown bw4 hg5 (by omega) (by omega)
          obtain ⟨r, hr⟩ : ∃ r, r = blks st0 (pad l) ((pad l).length / 64) := ⟨_, rfl⟩
          rw [← hr]
          have HR := hid hr
          clear hr a5 hq5 hg5 hh4 bw4 a4 hs8
          go_loopw [7, 43] (fun v i wr => ∃ k : Nat, k ≤ 8 ∧ i = .int .i64 k ∧ own wr G v (r.bytes.take (4 * k)) ∧ Below G w wr) (fun _ i _ => 8 - (intOf i).toNat)
          case atStart => exact ⟨0, by omega, rfl, own.nil _ _, bw5⟩
          case round =>
            clear bw5
            obtain ⟨k, hk, rfl, ho, hbel⟩ := hrel
            have hsz : G ≤ wr.heap.size := by rw [HG.out]; exact hbel.size
            by_cases hlk : k < 8
            · have hlk' : (k : Int) < 8 := by omega
              have cx := wcs_get [r.a, r.b, r.c, r.d, r.e, r.f, r.g, r.h] k hlk
              obtain ⟨x, hx⟩ : ∃ x, x = [r.a, r.b, r.c, r.d, r.e, r.f, r.g, r.h].getD k 0 := ⟨_, rfl⟩
              rw [← hx] at cx
              have HX := hid hx
              have hix : ∀ W : World, (Instr.index 135 (.agg r.cells.toArray) (.int .i64 (k : Int))).run Try.prog W = .ok (.int .u32 (x : Int)) W := fun W => run_index_agg W _ 132 8 _ k _ Try.underlying135 (by kernel_rfl) (by kernel_rfl) hlk (by simpa [St.cells] using cx)
              clear hx cx
              go_wp2_with ((at_builtin; go_must (refine own_append rfl _ _ rfl G u7 (r.bytes.take (4 * k)) (b4 x) rfl (ho.alloc _) _ 0 4 rfl (by intro j hj; rw [b4_cells x (b4 x) rfl, Nat.zero_add]; exact (arr.new _ _ _).cell j _ (bcs_get _ j hj)) (by simp [b4]; omega) (by simp; omega) ?_); intro v7 w7 ho7 hg7))
              go_roundw
              case rel =>
                refine ⟨k + 1, by omega, by go_num, ?_, ?_⟩
                · rw [← bytes_take r k x hlk HX.out]; exact ho7
                · exact below_own (hbel.alloc (by omega) _) (ho.alloc _) hg7 (by simp; omega) (Nat.le_refl _)
              case measure => simp [intOf]; omega
            · obtain rfl : k = 8 := by omega
              have ho8 : own wr G u7 r.bytes := ho
              go_wp2_with (refine wpList_text rfl _ rfl (base := G) u7 r.bytes rfl ho8 ?_)
              go_ret
              refine ⟨?_, by rw [← HG.out]; exact hbel⟩
              rw [HR.out]
              rfl
end Go.Proofs.Ytcfohdkdppiekaa
