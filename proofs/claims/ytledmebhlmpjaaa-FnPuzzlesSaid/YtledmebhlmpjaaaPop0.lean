/- Pop0: the bits of a number are counted by halves, quarters and bytes; no program in sight. No condition. -/
import Derived.Test.YtledmebhlmpjaaaWay0
set_option linter.unusedVariables false
set_option linter.unusedSimpArgs false
namespace Peg
def byb (f : Nat → Nat) : Nat → Nat → Nat
  | 0, _ => 0
  | n + 1, x => f (x % 256) + 256 * byb f n (x / 256)
def rep (c : Nat) : Nat → Nat
  | 0 => 0
  | n + 1 => c + 256 * rep c n
theorem and_byte (x c m : Nat) (hc : c < 256) : x &&& (c + 256 * m) = (x % 256 &&& c) + 256 * (x / 256 &&& m) := by
  have h1 := Nat.and_mod_two_pow (a := x) (b := c + 256 * m) (n := 8)
  have h2 := Nat.and_div_two_pow (a := x) (b := c + 256 * m) (n := 8)
  have e8 : (2 : Nat) ^ 8 = 256 := by decide
  rw [e8] at h1 h2
  rw [show (c + 256 * m) % 256 = c from by omega] at h1
  rw [show (c + 256 * m) / 256 = m from by omega] at h2
  omega
theorem and_rep (c : Nat) (hc : c < 256) : ∀ n x, x &&& rep c n = byb (fun r => r &&& c) n x := by
  intro n
  induction n with
  | zero => intro x; simp [rep, byb]
  | succ n ih => intro x; rw [rep, and_byte x c _ hc, ih]; rfl
set_option maxRecDepth 100000 in
theorem b1 : ∀ r : Fin 512, ((r.val / 2) % 256) &&& 85 = ((r.val % 256) / 2) &&& 85 := by decide +kernel
set_option maxRecDepth 100000 in
theorem b2 : ∀ r : Fin 1024, ((r.val / 4) % 256) &&& 51 = ((r.val % 256) / 4) &&& 51 := by decide +kernel
theorem step1 : ∀ n x, (x / 2 &&& rep 85 n) + (x &&& rep 85 n) = byb (fun r => (r / 2 &&& 85) + (r &&& 85)) n x := by
  intro n
  induction n with
  | zero => intro x; simp [rep, byb]
  | succ n ih =>
    intro x
    rw [rep, and_byte _ 85 _ (by decide), and_byte _ 85 _ (by decide), byb, ← ih]
    have h := b1 ⟨x % 512, by omega⟩
    simp only at h
    rw [show (x % 512 / 2) % 256 = x / 2 % 256 from by omega, show x % 512 % 256 = x % 256 from by omega] at h
    rw [h, show x / 2 / 256 = x / 256 / 2 from by omega]
    omega
theorem step2 : ∀ n x, (x / 4 &&& rep 51 n) + (x &&& rep 51 n) = byb (fun r => (r / 4 &&& 51) + (r &&& 51)) n x := by
  intro n
  induction n with
  | zero => intro x; simp [rep, byb]
  | succ n ih =>
    intro x
    rw [rep, and_byte _ 51 _ (by decide), and_byte _ 51 _ (by decide), byb, ← ih]
    have h := b2 ⟨x % 1024, by omega⟩
    simp only at h
    rw [show (x % 1024 / 4) % 256 = x / 4 % 256 from by omega, show x % 1024 % 256 = x % 256 from by omega] at h
    rw [h, show x / 4 / 256 = x / 256 / 4 from by omega]
    omega
set_option maxRecDepth 100000 in
theorem f1lt : ∀ r : Fin 256, (r.val / 2 &&& 85) + (r.val &&& 85) < 256 := by decide +kernel
def f1 (r : Nat) : Nat := (r / 2 &&& 85) + (r &&& 85)
def f2 (r : Nat) : Nat := (r / 4 &&& 51) + (r &&& 51)
def pc8 (r : Nat) : Nat := (List.range 8).countP fun j => r.testBit j
set_option maxRecDepth 100000 in
theorem f2lt : ∀ r : Fin 256, f2 (f1 r.val) % 16 ≤ 4 ∧ f2 (f1 r.val) / 16 ≤ 4 ∧ f2 (f1 r.val) % 16 + f2 (f1 r.val) / 16 = pc8 r.val ∧ f1 r.val < 256 := by decide +kernel
theorem byb_byb (f g : Nat → Nat) (hf : ∀ r, r < 256 → f r < 256) : ∀ n x, byb g n (byb f n x) = byb (fun r => g (f r)) n x := by
  intro n
  induction n with
  | zero => intro x; rfl
  | succ n ih =>
    intro x
    have h := hf (x % 256) (by omega)
    have e1 : byb f (n + 1) x % 256 = f (x % 256) := by rw [byb]; omega
    have e2 : byb f (n + 1) x / 256 = byb f n (x / 256) := by rw [byb]; omega
    show g (byb f (n + 1) x % 256) + 256 * byb g n (byb f (n + 1) x / 256) = _
    rw [e1, e2, ih]
    rfl
theorem byb_lt (f : Nat → Nat) (hf : ∀ r, r < 256 → f r < 256) : ∀ n x, byb f n x < 256 ^ n := by
  intro n
  induction n with
  | zero => intro x; simp [byb]
  | succ n ih =>
    intro x
    have h := hf (x % 256) (by omega)
    have h2 := ih (x / 256)
    rw [byb, Nat.pow_succ]
    generalize (256 : Nat) ^ n = P at *
    omega
theorem fold3 (x0 x1 x2 x3 x4 x5 x6 x7 h0 h1 h2 h3 h4 h5 h6 h7 : Nat) (a : x0 ≤ 4 ∧ x1 ≤ 4 ∧ x2 ≤ 4 ∧ x3 ≤ 4 ∧ x4 ≤ 4 ∧ x5 ≤ 4 ∧ x6 ≤ 4 ∧ x7 ≤ 4) (b : h0 ≤ 4 ∧ h1 ≤ 4 ∧ h2 ≤ 4 ∧ h3 ≤ 4 ∧ h4 ≤ 4 ∧ h5 ≤ 4 ∧ h6 ≤ 4 ∧ h7 ≤ 4)
    (y : Nat) (hy : y = (x0 + 16 * h0) + 256 * ((x1 + 16 * h1) + 256 * ((x2 + 16 * h2) + 256 * ((x3 + 16 * h3) + 256 * ((x4 + 16 * h4) + 256 * ((x5 + 16 * h5) + 256 * ((x6 + 16 * h6) + 256 * ((x7 + 16 * h7))))))))) :
    byb (fun r => r &&& 15) 8 (y / 16 + y) = (x0 + h0) + 256 * ((x1 + h1) + 256 * ((x2 + h2) + 256 * ((x3 + h3) + 256 * ((x4 + h4) + 256 * ((x5 + h5) + 256 * ((x6 + h6) + 256 * ((x7 + h7)))))))) := by
  have e : (y / 16 + y) = ((x0 + h0) + 16 * (h0 + x1)) + 256 * (((x1 + h1) + 16 * (h1 + x2)) + 256 * (((x2 + h2) + 16 * (h2 + x3)) + 256 * (((x3 + h3) + 16 * (h3 + x4)) + 256 * (((x4 + h4) + 16 * (h4 + x5)) + 256 * (((x5 + h5) + 16 * (h5 + x6)) + 256 * (((x6 + h6) + 16 * (h6 + x7)) + 256 * (((x7 + h7) + 16 * h7)))))))) := by omega
  have m15 : ∀ r, r &&& 15 = r % 16 := fun r => Nat.and_two_pow_sub_one_eq_mod r 4
  rw [e]
  clear e hy
  have st : ∀ n lo hi rest, lo + hi * 16 < 256 → lo < 16 → byb (fun r => r &&& 15) (n + 1) ((lo + 16 * hi) + 256 * rest) = lo + 256 * byb (fun r => r &&& 15) n rest := by
    intro n lo hi rest h1 h2
    rw [byb, m15, show ((lo + 16 * hi) + 256 * rest) / 256 = rest from by omega, show ((lo + 16 * hi) + 256 * rest) % 256 % 16 = lo from by omega]
  rw [st 7 _ _ _ (by omega) (by omega), st 6 _ _ _ (by omega) (by omega), st 5 _ _ _ (by omega) (by omega), st 4 _ _ _ (by omega) (by omega), st 3 _ _ _ (by omega) (by omega), st 2 _ _ _ (by omega) (by omega), st 1 _ _ _ (by omega) (by omega)]
  have := st 0 (x7 + h7) h7 0 (by omega) (by omega)
  rw [show (x7 + h7 + 16 * h7 + 256 * 0) = (x7 + h7 + 16 * h7) from by omega] at this
  rw [this]
  simp [byb]
def pop1 (x : Nat) : Nat := (x / 2 &&& 6148914691236517205) + (x &&& 6148914691236517205)
def pop2 (x : Nat) : Nat := (x / 4 &&& 3689348814741910323) + (x &&& 3689348814741910323)
def pop3 (x : Nat) : Nat := (x / 16 + x) &&& 1085102592571150095
def pop4 (x : Nat) : Nat := x + x / 256
def pop5 (x : Nat) : Nat := x + x / 65536
def pop6 (x : Nat) : Nat := x + x / 4294967296
def cnt (x : Nat) (n : Nat) : Nat := (List.range n).countP fun i => x.testBit i
theorem cnt_add (x n : Nat) : cnt x (n + 8) = cnt x n + pc8 (x / 2 ^ n % 256) := by
  unfold cnt pc8
  rw [List.range_add, List.countP_append, List.countP_map]
  congr 1
  apply List.countP_congr
  intro j hj
  have hj8 : j < 8 := by simpa using hj
  have e8 : (256 : Nat) = 2 ^ 8 := by decide
  simp only [Function.comp]
  rw [e8, Nat.testBit_mod_two_pow, Nat.testBit_div_two_pow]
  simp [hj8, Nat.add_comm]
theorem cnt64 (x : Nat) : cnt x 64 = pc8 (x % 256) + pc8 (x / 256 % 256) + pc8 (x / 65536 % 256) + pc8 (x / 16777216 % 256) + pc8 (x / 4294967296 % 256) + pc8 (x / 1099511627776 % 256) + pc8 (x / 281474976710656 % 256) + pc8 (x / 72057594037927936 % 256) := by
  rw [cnt_add x 56, cnt_add x 48, cnt_add x 40, cnt_add x 32, cnt_add x 24, cnt_add x 16, cnt_add x 8, cnt_add x 0]
  simp [cnt]
set_option maxRecDepth 100000 in
theorem pc8le : ∀ r : Fin 256, pc8 r.val ≤ 8 := by decide +kernel
theorem div1 (a r : Nat) (h : a < 256) : (a + 256 * r) / 256 = r := by omega
theorem div2 (a b r : Nat) (h : a < 256) (h2 : b < 256) : (a + 256 * (b + 256 * r)) / 65536 = r := by omega
theorem div4 (a b c d r : Nat) (h : a < 256) (h2 : b < 256) (h3 : c < 256) (h4 : d < 256) : (a + 256 * (b + 256 * (c + 256 * (d + 256 * r)))) / 4294967296 = r := by omega
theorem e4 (c0 c1 c2 c3 c4 c5 c6 c7 : Nat) (h : c0 ≤ 8) (y : Nat) (hy : y = c0 + 256 * (c1 + 256 * (c2 + 256 * (c3 + 256 * (c4 + 256 * (c5 + 256 * (c6 + 256 * c7))))))) :
    pop4 y = (c0 + c1) + 256 * ((c1 + c2) + 256 * ((c2 + c3) + 256 * ((c3 + c4) + 256 * ((c4 + c5) + 256 * ((c5 + c6) + 256 * ((c6 + c7) + 256 * c7)))))) := by
  unfold pop4
  rw [hy, div1 c0 _ (by omega)]
  clear hy
  omega
theorem e5 (d0 d1 d2 d3 d4 d5 d6 d7 : Nat) (h : d0 < 256) (h1 : d1 < 256) (y : Nat) (hy : y = d0 + 256 * (d1 + 256 * (d2 + 256 * (d3 + 256 * (d4 + 256 * (d5 + 256 * (d6 + 256 * d7))))))) :
    pop5 y = (d0 + d2) + 256 * ((d1 + d3) + 256 * ((d2 + d4) + 256 * ((d3 + d5) + 256 * ((d4 + d6) + 256 * ((d5 + d7) + 256 * (d6 + 256 * d7)))))) := by
  unfold pop5
  rw [hy, div2 d0 d1 _ h h1]
  clear hy
  omega
theorem e6 (d0 d1 d2 d3 d4 d5 d6 d7 : Nat) (h : d0 < 256) (h1 : d1 < 256) (h2 : d2 < 256) (h3 : d3 < 256) (y : Nat) (hy : y = d0 + 256 * (d1 + 256 * (d2 + 256 * (d3 + 256 * (d4 + 256 * (d5 + 256 * (d6 + 256 * d7))))))) :
    pop6 y = (d0 + d4) + 256 * ((d1 + d5) + 256 * ((d2 + d6) + 256 * ((d3 + d7) + 256 * (d4 + 256 * (d5 + 256 * (d6 + 256 * d7)))))) := by
  unfold pop6
  rw [hy, div4 d0 d1 d2 d3 _ h h1 h2 h3]
  clear hy
  omega
theorem pop_last (c0 c1 c2 c3 c4 c5 c6 c7 : Nat) (h : c0 ≤ 8 ∧ c1 ≤ 8 ∧ c2 ≤ 8 ∧ c3 ≤ 8 ∧ c4 ≤ 8 ∧ c5 ≤ 8 ∧ c6 ≤ 8 ∧ c7 ≤ 8) (y : Nat) (hy : y = c0 + 256 * (c1 + 256 * (c2 + 256 * (c3 + 256 * (c4 + 256 * (c5 + 256 * (c6 + 256 * c7))))))) :
    pop4 y ≤ 1157442765409226768 ∧ pop5 (pop4 y) ≤ 2314885530818453536 ∧ pop6 (pop5 (pop4 y)) ≤ 4629771061636907072 ∧ pop6 (pop5 (pop4 y)) % 128 = c0 + c1 + c2 + c3 + c4 + c5 + c6 + c7 := by
  have a4 := e4 c0 c1 c2 c3 c4 c5 c6 c7 (by omega) y hy
  have a5 := e5 _ _ _ _ _ _ _ _ (by omega) (by omega) _ a4
  have a6 := e6 _ _ _ _ _ _ _ _ (by omega) (by omega) (by omega) (by omega) _ a5
  generalize pop6 (pop5 (pop4 y)) = y6 at *
  generalize pop5 (pop4 y) = y5 at *
  generalize pop4 y = y4 at *
  clear hy
  obtain ⟨h0, h1, h2, h3, h4, h5, h6, h7⟩ := h
  refine ⟨by clear a5 a6; omega, by clear a4 a6; omega, by clear a4 a5; omega, ?_⟩
  clear a4 a5
  have : y6 % 128 = (c0 + c1 + (c2 + c3) + (c4 + c5 + (c6 + c7))) % 128 := by
    generalize (c1 + c2 + (c3 + c4) + (c5 + c6 + c7)) = R1 at a6
    rw [a6, show ∀ A B : Nat, (A + 256 * B) % 128 = A % 128 from fun A B => by omega]
  rw [this]
  omega
theorem pop_law {x : Nat} (hx : x < 18446744073709551616) : pop1 x < 18446744073709551616 ∧ pop2 (pop1 x) ≤ 4919131752989213764 ∧ pop4 (pop3 (pop2 (pop1 x))) ≤ 1157442765409226768 ∧ pop5 (pop4 (pop3 (pop2 (pop1 x)))) ≤ 2314885530818453536 ∧ pop6 (pop5 (pop4 (pop3 (pop2 (pop1 x))))) ≤ 4629771061636907072 ∧ pop6 (pop5 (pop4 (pop3 (pop2 (pop1 x))))) % 128 = cnt x 64 := by
  have r1 : (6148914691236517205 : Nat) = rep 85 8 := by decide
  have r2 : (3689348814741910323 : Nat) = rep 51 8 := by decide
  have r3 : (1085102592571150095 : Nat) = rep 15 8 := by decide
  have s1 : pop1 x = byb f1 8 x := by unfold pop1; rw [r1, step1]; rfl
  have s2 : pop2 (pop1 x) = byb (fun r => f2 (f1 r)) 8 x := by
    rw [s1]; unfold pop2; rw [r2, step2]
    exact byb_byb f1 f2 (fun r hr => (f2lt ⟨r, hr⟩).2.2.2) 8 x
  have hb : pop1 x < 18446744073709551616 := by
    rw [s1]
    have := byb_lt f1 (fun r hr => (f2lt ⟨r, hr⟩).2.2.2) 8 x
    rwa [show (256 : Nat) ^ 8 = 18446744073709551616 from by decide] at this
  have hr : ∀ z, z % 256 < 256 := fun z => Nat.mod_lt _ (by decide)
  have q0 := f2lt ⟨x % 256, hr _⟩; have q1 := f2lt ⟨x / 256 % 256, hr _⟩; have q2 := f2lt ⟨x / 65536 % 256, hr _⟩; have q3 := f2lt ⟨x / 16777216 % 256, hr _⟩; have q4 := f2lt ⟨x / 4294967296 % 256, hr _⟩; have q5 := f2lt ⟨x / 1099511627776 % 256, hr _⟩; have q6 := f2lt ⟨x / 281474976710656 % 256, hr _⟩; have q7 := f2lt ⟨x / 72057594037927936 % 256, hr _⟩
  simp only at q0 q1 q2 q3 q4 q5 q6 q7
  have s2' : pop2 (pop1 x) = f2 (f1 (x % 256)) + 256 * (f2 (f1 (x / 256 % 256)) + 256 * (f2 (f1 (x / 65536 % 256)) + 256 * (f2 (f1 (x / 16777216 % 256)) + 256 * (f2 (f1 (x / 4294967296 % 256)) + 256 * (f2 (f1 (x / 1099511627776 % 256)) + 256 * (f2 (f1 (x / 281474976710656 % 256)) + 256 * (f2 (f1 (x / 72057594037927936 % 256))))))))) := by
    rw [s2]; simp [byb, Nat.div_div_eq_div_mul]
  rw [cnt64]
  generalize x % 256 = x0 at *; generalize x / 256 % 256 = x1 at *; generalize x / 65536 % 256 = x2 at *; generalize x / 16777216 % 256 = x3 at *; generalize x / 4294967296 % 256 = x4 at *; generalize x / 1099511627776 % 256 = x5 at *; generalize x / 281474976710656 % 256 = x6 at *; generalize x / 72057594037927936 % 256 = x7 at *
  clear s2 s1
  generalize pop2 (pop1 x) = y at *
  generalize pop1 x = z at *
  rw [← q0.2.2.1, ← q1.2.2.1, ← q2.2.2.1, ← q3.2.2.1, ← q4.2.2.1, ← q5.2.2.1, ← q6.2.2.1, ← q7.2.2.1]
  have hy := fold3 (f2 (f1 x0) % 16) (f2 (f1 x1) % 16) (f2 (f1 x2) % 16) (f2 (f1 x3) % 16) (f2 (f1 x4) % 16) (f2 (f1 x5) % 16) (f2 (f1 x6) % 16) (f2 (f1 x7) % 16) (f2 (f1 x0) / 16) (f2 (f1 x1) / 16) (f2 (f1 x2) / 16) (f2 (f1 x3) / 16) (f2 (f1 x4) / 16) (f2 (f1 x5) / 16) (f2 (f1 x6) / 16) (f2 (f1 x7) / 16)
    ⟨q0.1, q1.1, q2.1, q3.1, q4.1, q5.1, q6.1, q7.1⟩ ⟨q0.2.1, q1.2.1, q2.2.1, q3.2.1, q4.2.1, q5.2.1, q6.2.1, q7.2.1⟩ y (by rw [s2']; omega)
  have s3 : pop3 y = byb (fun r => r &&& 15) 8 (y / 16 + y) := by unfold pop3; rw [r3, and_rep 15 (by decide)]
  rw [← s3] at hy
  obtain ⟨p1, p2, p3, p4⟩ := pop_last _ _ _ _ _ _ _ _ ⟨by omega, by omega, by omega, by omega, by omega, by omega, by omega, by omega⟩ _ hy
  exact ⟨hb, by omega, p1, p2, p3, by rw [p4]⟩
end Peg
