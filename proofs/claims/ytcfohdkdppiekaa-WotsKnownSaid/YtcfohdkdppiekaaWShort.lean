/- law19's short: contract. -/
import Derived.Test.YtcfohdkdppiekaaKitP
import Derived.Test.YtcfohdkdppiekaaWCut
namespace Go.Proofs.Ytcfohdkdppiekaa
open Go.RowKit Go.Proofs Go
/-- what a certificate is about: three texts and three numbers -/
structure Abt where
  a : List UInt8
  b : List UInt8
  c : List UInt8
  x : Nat
  y : Nat
  z : Nat
def Abt.cs (t : Abt) : List Value := [.string ⟨t.a.toArray⟩, .string ⟨t.b.toArray⟩, .string ⟨t.c.toArray⟩, .int .u64 (t.x : Int), .int .u64 (t.y : Int), .int .u64 (t.z : Int)]
structure Abt.ok (t : Abt) : Prop where
  a : t.a.length ≤ 9223372036854775807
  b : t.b.length ≤ 9223372036854775807
  c : t.c.length ≤ 9223372036854775807
  x : t.x < 18446744073709551616
  y : t.y < 18446744073709551616
  z : t.z < 18446744073709551616
def Abt.sh (t : Abt) : Abt := ⟨t.a.take 60, t.b.take 60, t.c.take 60, t.x, t.y, t.z⟩
set_option maxRecDepth 100000 in
set_option maxHeartbeats 2000000 in
theorem short_any (t : Abt) (ht : t.ok) (w : World) :
    Calls Try.prog 104 #[.agg t.cs.toArray] w fun e w' => e = .returned (.agg t.sh.cs.toArray) ∧ Below w.heap.size w w' := by
  obtain ⟨a, b, c, x, y, z⟩ := t
  obtain ⟨ha, hb, hc, hx, hy, hz⟩ := ht
  unfold Abt.cs Abt.sh
  simp only at *
  have HXA := hid (cut_text a 60)
  have HXB := hid (cut_text b 60)
  have HXC := hid (cut_text c 60)
  obtain ⟨p, hp, hpb, hpc⟩ : ∃ q : Nat, min (a.length : Int) 60 = (q : Int) ∧ (q = 60 ∨ (q = a.length ∧ a.length ≤ 60)) ∧ q ≤ a.length := by
    by_cases h3 : a.length ≤ 60
    · exact ⟨a.length, by omega, Or.inr ⟨rfl, h3⟩, Nat.le_refl _⟩
    · exact ⟨60, by omega, Or.inl rfl, by omega⟩
  have hpa : (if (60 : Int) < (a.length : Int) then (60 : Int) else (a.length : Int)) = (p : Int) := by
    rw [← hp]
    split <;> omega
  have HpB := hid hpb
  clear hpb
  obtain ⟨q, hq, hqb, hqc⟩ : ∃ q : Nat, min (b.length : Int) 60 = (q : Int) ∧ (q = 60 ∨ (q = b.length ∧ b.length ≤ 60)) ∧ q ≤ b.length := by
    by_cases h3 : b.length ≤ 60
    · exact ⟨b.length, by omega, Or.inr ⟨rfl, h3⟩, Nat.le_refl _⟩
    · exact ⟨60, by omega, Or.inl rfl, by omega⟩
  have hqa : (if (60 : Int) < (b.length : Int) then (60 : Int) else (b.length : Int)) = (q : Int) := by
    rw [← hq]
    split <;> omega
  have HqB := hid hqb
  clear hqb
  obtain ⟨r, hr, hrb, hrc⟩ : ∃ q : Nat, min (c.length : Int) 60 = (q : Int) ∧ (q = 60 ∨ (q = c.length ∧ c.length ≤ 60)) ∧ q ≤ c.length := by
    by_cases h3 : c.length ≤ 60
    · exact ⟨c.length, by omega, Or.inr ⟨rfl, h3⟩, Nat.le_refl _⟩
    · exact ⟨60, by omega, Or.inl rfl, by omega⟩
  have hra : (if (60 : Int) < (c.length : Int) then (60 : Int) else (c.length : Int)) = (r : Int) := by
    rw [← hr]
    split <;> omega
  have HrB := hid hrb
  clear hrb
  go_enter Try.func104, Try.ntmps104
  go_wp2_with fail
  rw [HXA.out p HpB.out, HXB.out q HqB.out, HXC.out r HrB.out]
  have b1 : Below w.heap.size w ((w.alloc (.cells #[.string ⟨(a.take 60).toArray⟩, .string ⟨(b.take 60).toArray⟩, .string ⟨(c.take 60).toArray⟩, .int .u64 (x : Int), .int .u64 (y : Int), .int .u64 (z : Int)] 125)).alloc (.cells #[.string ⟨(a.take 60).toArray⟩, .string ⟨(b.take 60).toArray⟩, .string ⟨(c.take 60).toArray⟩, .int .u64 (x : Int), .int .u64 (y : Int), .int .u64 (z : Int)] 125)) := ((Below.refl _ _).alloc (Nat.le_refl _) _).alloc (by simp) _
  refine bodyPost_ret (arr.results rfl _ _ (w.heap.size + 1) 125 [.string ⟨(a.take 60).toArray⟩, .string ⟨(b.take 60).toArray⟩, .string ⟨(c.take 60).toArray⟩, .int .u64 (x : Int), .int .u64 (y : Int), .int .u64 (z : Int)] _ rfl ?_ Try.underlying125 rfl (by kernel_rfl)) rfl ⟨rfl, b1⟩
  exact arr.newAt _ _ _ _ (by simp)
end Go.Proofs.Ytcfohdkdppiekaa
