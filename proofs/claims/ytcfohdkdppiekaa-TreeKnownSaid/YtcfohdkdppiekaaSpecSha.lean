/- What SHA-256 is, over natural numbers: plain Lean. -/
namespace Go.Proofs.Ytcfohdkdppiekaa
/-- a word turned down by n places -/
def rr (n x : Nat) : Nat := (x / 2 ^ n) ||| (x * 2 ^ (32 - n) % 4294967296)
def sg0 (x : Nat) : Nat := (rr 7 x ^^^ rr 18 x) ^^^ (x / 8)
def sg1 (x : Nat) : Nat := (rr 17 x ^^^ rr 19 x) ^^^ (x / 1024)
def bg1 (x : Nat) : Nat := (rr 6 x ^^^ rr 11 x) ^^^ rr 25 x
def bg0 (x : Nat) : Nat := (rr 2 x ^^^ rr 13 x) ^^^ rr 22 x
def chs (e f g : Nat) : Nat := (e &&& f) ||| ((4294967295 - e) &&& g)
def mjr (a b c : Nat) : Nat := ((a &&& b) ||| (a &&& c)) ||| (b &&& c)
def kon : List Nat := [
  1116352408, 1899447441, 3049323471, 3921009573, 961987163, 1508970993, 2453635748, 2870763221,
  3624381080, 310598401, 607225278, 1426881987, 1925078388, 2162078206, 2614888103, 3248222580,
  3835390401, 4022224774, 264347078, 604807628, 770255983, 1249150122, 1555081692, 1996064986,
  2554220882, 2821834349, 2952996808, 3210313671, 3336571891, 3584528711, 113926993, 338241895,
  666307205, 773529912, 1294757372, 1396182291, 1695183700, 1986661051, 2177026350, 2456956037,
  2730485921, 2820302411, 3259730800, 3345764771, 3516065817, 3600352804, 4094571909, 275423344,
  430227734, 506948616, 659060556, 883997877, 958139571, 1322822218, 1537002063, 1747873779,
  1955562222, 2024104815, 2227730452, 2361852424, 2428436474, 2756734187, 3204031479, 3329325298]
/-- the eight words -/
structure St where
  a : Nat
  b : Nat
  c : Nat
  d : Nat
  e : Nat
  f : Nat
  g : Nat
  h : Nat
structure St.ok (s : St) : Prop where
  a : s.a < 4294967296
  b : s.b < 4294967296
  c : s.c < 4294967296
  d : s.d < 4294967296
  e : s.e < 4294967296
  f : s.f < 4294967296
  g : s.g < 4294967296
  h : s.h < 4294967296
def rnx (k w : Nat) (s : St) : Nat := (s.h + k + w + bg1 s.e + chs s.e s.f s.g) % 4294967296
def rny (s : St) : Nat := (bg0 s.a + mjr s.a s.b s.c) % 4294967296
def rnd (k w : Nat) (s : St) : St := ⟨(rnx k w s + rny s) % 4294967296, s.a, s.b, s.c, (s.d + rnx k w s) % 4294967296, s.e, s.f, s.g⟩
/-- the t-th word of a block's bytes -/
def wrd (l : List UInt8) (t : Nat) : Nat := (((l.getD (4 * t) 0).toNat * 16777216 ||| (l.getD (4 * t + 1) 0).toNat * 65536) ||| (l.getD (4 * t + 2) 0).toNat * 256) ||| (l.getD (4 * t + 3) 0).toNat
/-- one more word of the schedule -/
def nxt (m : List Nat) : Nat :=
  (m.getD (m.length - 16) 0 + sg0 (m.getD (m.length - 15) 0) + m.getD (m.length - 7) 0 + sg1 (m.getD (m.length - 2) 0)) % 4294967296
/-- the first words of the schedule: k of them (k ≤ 16) -/
def sch0 (l : List UInt8) : Nat → List Nat
  | 0 => []
  | k + 1 => sch0 l k ++ [wrd l k]
/-- and k more -/
def sch (l : List UInt8) : Nat → List Nat
  | 0 => sch0 l 16
  | k + 1 => sch l k ++ [nxt (sch l k)]
/-- k rounds -/
def rns (m : List Nat) (s : St) : Nat → St
  | 0 => s
  | k + 1 => rnd (kon.getD k 0) (m.getD k 0) (rns m s k)
def adds (s r : St) : St := ⟨(s.a + r.a) % 4294967296, (s.b + r.b) % 4294967296, (s.c + r.c) % 4294967296, (s.d + r.d) % 4294967296, (s.e + r.e) % 4294967296, (s.f + r.f) % 4294967296, (s.g + r.g) % 4294967296, (s.h + r.h) % 4294967296⟩
/-- a block goes in -/
def blk (s : St) (l : List UInt8) : St := adds s (rns (sch l 48) s 64)
def st0 : St := ⟨1779033703, 3144134277, 1013904242, 2773480762, 1359893119, 2600822924, 528734635, 1541459225⟩
/-- n blocks go in -/
def blks (s : St) (l : List UInt8) : Nat → St
  | 0 => s
  | n + 1 => blk (blks s l n) ((l.drop (64 * n)).take 64)
/-- eight bytes of a number, the highest first -/
def b8 (n : Nat) : List UInt8 := [(n / 2 ^ 56).toUInt8, (n / 2 ^ 48).toUInt8, (n / 2 ^ 40).toUInt8, (n / 2 ^ 32).toUInt8, (n / 2 ^ 24).toUInt8, (n / 2 ^ 16).toUInt8, (n / 2 ^ 8).toUInt8, n.toUInt8]
/-- four bytes of a word, the highest first -/
def b4 (n : Nat) : List UInt8 := [(n / 2 ^ 24).toUInt8, (n / 2 ^ 16).toUInt8, (n / 2 ^ 8).toUInt8, n.toUInt8]
/-- how many noughts -/
def nzs (n : Nat) : Nat := (119 - n % 64) % 64
def pad (l : List UInt8) : List UInt8 := (l ++ 128 :: List.replicate (nzs l.length) 0) ++ b8 (8 * l.length % 18446744073709551616)
def St.bytes (s : St) : List UInt8 := b4 s.a ++ b4 s.b ++ b4 s.c ++ b4 s.d ++ b4 s.e ++ b4 s.f ++ b4 s.g ++ b4 s.h
/-- the sum -/
def sha (l : List UInt8) : List UInt8 := (blks st0 (pad l) ((pad l).length / 64)).bytes
/-! bounds -/
theorem rr_lt (n x : Nat) (hx : x < 4294967296) : rr n x < 4294967296 := by
  unfold rr
  exact Nat.or_lt_two_pow (n := 32) (Nat.lt_of_le_of_lt (Nat.div_le_self _ _) hx) (Nat.mod_lt _ (by decide))
theorem dv_lt (n x : Nat) (hx : x < 4294967296) : x / n < 4294967296 := Nat.lt_of_le_of_lt (Nat.div_le_self _ _) hx
theorem xr_lt (a b : Nat) (ha : a < 4294967296) (hb : b < 4294967296) : a ^^^ b < 4294967296 := Nat.xor_lt_two_pow (n := 32) ha hb
theorem or_lt (a b : Nat) (ha : a < 4294967296) (hb : b < 4294967296) : a ||| b < 4294967296 := Nat.or_lt_two_pow (n := 32) ha hb
theorem an_lt (a b : Nat) (ha : a < 4294967296) : a &&& b < 4294967296 := Nat.lt_of_le_of_lt Nat.and_le_left ha
theorem sg0_lt (x : Nat) (hx : x < 4294967296) : sg0 x < 4294967296 := xr_lt _ _ (xr_lt _ _ (rr_lt _ _ hx) (rr_lt _ _ hx)) (dv_lt _ _ hx)
theorem sg1_lt (x : Nat) (hx : x < 4294967296) : sg1 x < 4294967296 := xr_lt _ _ (xr_lt _ _ (rr_lt _ _ hx) (rr_lt _ _ hx)) (dv_lt _ _ hx)
theorem bg0_lt (x : Nat) (hx : x < 4294967296) : bg0 x < 4294967296 := xr_lt _ _ (xr_lt _ _ (rr_lt _ _ hx) (rr_lt _ _ hx)) (rr_lt _ _ hx)
theorem bg1_lt (x : Nat) (hx : x < 4294967296) : bg1 x < 4294967296 := xr_lt _ _ (xr_lt _ _ (rr_lt _ _ hx) (rr_lt _ _ hx)) (rr_lt _ _ hx)
theorem nxt_lt (m : List Nat) : nxt m < 4294967296 := Nat.mod_lt _ (by decide)
theorem wrd_lt (l : List UInt8) (t : Nat) : wrd l t < 4294967296 := by
  have h := fun i => (l.getD i 0).toNat_lt
  unfold wrd
  refine or_lt _ _ (or_lt _ _ (or_lt _ _ ?_ ?_) ?_) ?_
  · have := h (4 * t); omega
  · have := h (4 * t + 1); omega
  · have := h (4 * t + 2); omega
  · have := h (4 * t + 3); omega
theorem sch0_len (l : List UInt8) (k : Nat) : (sch0 l k).length = k := by
  induction k with
  | zero => rfl
  | succ k ih => simp [sch0, ih]
theorem sch_len (l : List UInt8) (k : Nat) : (sch l k).length = 16 + k := by
  induction k with
  | zero => exact sch0_len l 16
  | succ k ih => simp [sch, ih]; omega
theorem sch0_lt (l : List UInt8) (k : Nat) : ∀ x ∈ sch0 l k, x < 4294967296 := by
  induction k with
  | zero => intro x hx; cases hx
  | succ k ih =>
    intro x hx
    rcases List.mem_append.1 hx with h | h
    · exact ih x h
    · rw [List.mem_singleton.1 h]; exact wrd_lt l k
theorem sch_lt (l : List UInt8) (k : Nat) : ∀ x ∈ sch l k, x < 4294967296 := by
  induction k with
  | zero => exact sch0_lt l 16
  | succ k ih =>
    intro x hx
    rcases List.mem_append.1 hx with h | h
    · exact ih x h
    · rw [List.mem_singleton.1 h]; exact nxt_lt _
theorem getD_lt {m : List Nat} (h : ∀ x ∈ m, x < 4294967296) (i : Nat) : m.getD i 0 < 4294967296 := by
  rw [List.getD_eq_getElem?_getD]
  rcases Nat.lt_or_ge i m.length with hi | hi
  · rw [List.getElem?_eq_getElem hi]; exact h _ (List.getElem_mem _)
  · rw [List.getElem?_eq_none hi]; decide
theorem rnd_ok {k w : Nat} {s : St} (h : s.ok) : (rnd k w s).ok := ⟨Nat.mod_lt _ (by decide), h.a, h.b, h.c, Nat.mod_lt _ (by decide), h.e, h.f, h.g⟩
theorem rns_ok {m : List Nat} {s : St} (h : s.ok) (k : Nat) : (rns m s k).ok := by
  induction k with
  | zero => exact h
  | succ k ih => exact rnd_ok ih
theorem adds_ok (s r : St) : (adds s r).ok := by constructor <;> exact Nat.mod_lt _ (by decide)
theorem blk_ok (s : St) (l : List UInt8) : (blk s l).ok := adds_ok _ _
theorem st0_ok : st0.ok := by constructor <;> decide
theorem blks_ok (s : St) (l : List UInt8) (h : s.ok) (n : Nat) : (blks s l n).ok := by
  cases n with
  | zero => exact h
  | succ n => exact blk_ok _ _
theorem pad_len (l : List UInt8) : (pad l).length % 64 = 0 := by
  simp [pad, b8, nzs]; omega
theorem b4_len (n : Nat) : (b4 n).length = 4 := rfl
theorem bytes_len (s : St) : s.bytes.length = 32 := rfl
theorem sha_len (l : List UInt8) : (sha l).length = 32 := rfl
end Go.Proofs.Ytcfohdkdppiekaa
