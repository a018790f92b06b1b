/- PzA: several texts in one (Base, Bits, Bits2, Num0, Game0). Conditions: those that each theorem names. -/
import Derived.Test.YtledmebhlmpjaaaRows
import Derived.WalkKit
import Derived.ProofKit
import Derived.OpenShut
import Derived.Outline
import Derived.Handy
import Derived.Deep.QuietTactic
import Derived.BigQuiet
import Derived.Lib.Hide
import Derived.Lib.SmallJoins
import Derived.Lib.QuietBelow
import Derived.StillTailTactics
set_option linter.unusedVariables false
set_option linter.unusedSimpArgs false
namespace Go.Proofs.Ytledmebhlmpjaaa
open Go.ChangeShapes Go.WideShapes Go.ChangeAt Go.RowKit Go.Sort

theorem own : ownKnob Try.prog.godebug = none := by kernel_rfl
theorem laidOut : laidOutB Try.prog = true := by kernel_rfl

theorem bcell {W w1 : World} (hb : Below W.heap.size W w1) : (∀ b o, b < W.heap.size → w1.cell? ⟨b, o, none⟩ = W.cell? ⟨b, o, none⟩) ∧ (∀ b o, b < W.heap.size → w1.frozen? ⟨b, o, none⟩ = W.frozen? ⟨b, o, none⟩) ∧ W.heap.size ≤ w1.heap.size ∧ (∀ b, b < W.heap.size → b < w1.heap.size) :=
  ⟨fun b o h => hb.cell (p := ⟨b, o, none⟩) h, fun b o h => hb.frozen (p := ⟨b, o, none⟩) h, hb.size, fun b h => Nat.lt_of_lt_of_le h hb.size⟩

theorem below_via {W w w1 : World} {B : Nat} (h : Below W.heap.size W w1) (h2 : Below B w W) (hB : B ≤ W.heap.size) : Below B w w1 := h2.trans (h.mono hB)

/-- A region that draws its order, whose operations read and whose callees make memory at most. -/
theorem wp_region_qb {P : Program} {id : Nat} {Q : Exit → Act → World → Prop} {a : Act} {w : World} {l : List Oper} (hm : P.follows .mixedOrders = true) (hB : Region.lexB .any l.toArray = true)
    (h : (∀ b o d os, b < w.heap.size → (grow (redrawn w d) os).cell? ⟨b, o, none⟩ = w.cell? ⟨b, o, none⟩) →
      wpQuiet P l.toArray (fun w' => ∃ p : Regrown, w' = grow (redrawn w p.d) p.os) (fun a' => ∀ w', Below w.heap.size w w' → Q .normal a' w') l a) : (Code.region id l.toArray true).wp P Q a w := by
  refine wp_region_quiet_below hm hB ?_
  have h1 := h (fun b o d os hlt => (below_regrown w d os).cell (p := ⟨b, o, none⟩) hlt)
  have mono : ∀ (l' : List Oper) (Q1 Q2 : Act → Prop) (a : Act), (∀ a, Q1 a → Q2 a) → wpQuiet P l.toArray (fun w' => ∃ p : Regrown, w' = grow (redrawn w p.d) p.os) Q1 l' a → wpQuiet P l.toArray (fun w' => ∃ p : Regrown, w' = grow (redrawn w p.d) p.os) Q2 l' a := by
    intro l'
    induction l' with
    | nil => intro Q1 Q2 a hq hh; exact hq _ hh
    | cons o r ih =>
      intro Q1 Q2 a hq hh
      unfold wpQuiet at hh ⊢
      split at hh
      · rename_i hw; rw [if_pos hw]; exact Oper.quiet_mono (fun a => ih _ _ a hq) hh
      · rename_i hw; rw [if_neg hw]; exact ih _ _ _ hq hh
  exact mono l _ _ a (fun a' hq w' ⟨p, hp⟩ => by subst hp; exact hq _ (below_regrown w p.d p.os)) h1
theorem calls_qp {P : Program} {f : FuncId} {args : Array Value} {w : World} {d : Nat} {os : Array Obj} {v : Value}
    (h : Calls P f args (grow (redrawn w d) os) fun e w' => e = .returned v ∧ grow (redrawn w d) os = w') : Calls P f args (grow (redrawn w d) os) fun e w'' => e = .returned v ∧ ∃ p : Regrown, w'' = grow (redrawn w p.d) p.os :=
  h.mono fun _ _ ⟨he, hb⟩ => ⟨he, ⟨d, os⟩, hb.symm⟩

theorem i64_bd {n : Int} (h : (Lit.int .i64 n).wf = true) : -9223372036854775808 ≤ n ∧ n ≤ 9223372036854775807 := by
  simp [Lit.wf, IntKind.min, IntKind.max, IntKind.signed, IntKind.bits] at h
  omega
theorem i64_le {n : Int} (h : (Lit.int .i64 n).wf = true) : n ≤ 9223372036854775807 := (i64_bd h).2
theorem i64_ge {n : Int} (h : (Lit.int .i64 n).wf = true) : -9223372036854775808 ≤ n := (i64_bd h).1

section
variable {H : Type} {enc : TypeId × Value → H} {P : Program}
theorem trodAll_stays {W W' : World} (hl : laidOutB P = true) (hb : Below W.heap.size W W') : ∀ (ts : List TypeId) (vs : List Value) (ds : List (DataW H)) (ps : List MemPlace),
    (∀ t ∈ ts, P.readableRec t = true ∧ t < P.types.size) → DataW.TrodAll enc P W 0 (fun _ => true) true ts vs ds ps → (∀ x ∈ ps, x.block < W.heap.size) →
    DataW.TrodAll enc P W' 0 (fun b => decide (b < W.heap.size)) true ts vs ds ps := by
  intro ts
  induction ts with
  | nil =>
    intro vs ds ps _ h _
    obtain ⟨rfl, rfl, rfl⟩ := trodAll_nil h
    simp [DataW.TrodAll]
  | cons t ts ih =>
    intro vs ds ps hr h hlt
    obtain ⟨v, vs', d, ds', p, q, rfl, rfl, rfl, h1, h2⟩ := trodAll_cons h
    obtain ⟨hr1, hr2⟩ := hr t (by simp)
    exact ⟨p, q, Below.trod hl hr1 hr2 h1 hb (fun x hx => hlt x (by simp [hx])), ih vs' ds' q (fun u hu => hr u (by simp [hu])) h2 (fun x hx => hlt x (by simp [hx])), rfl⟩
end

/-- What a law's walk owes, of whatever arguments can be read. -/
def LawWalk (f : FuncId) (ts : List TypeId) : Prop :=
  ∀ (H : Type) (enc : TypeId × Value → H) (W : World) (base : Nat) (args : Array Value) (ds : List (DataW H)) (ps : List MemPlace),
    (∀ (j : Nat) t v, ts[j]? = some t → args[j]? = some v → Value.okWide Try.prog W .any base t v) →
    DataW.TrodAll enc Try.prog W 0 (fun _ => true) true ts args.toList ds ps →
    Calls Try.prog f args W fun e W' => e = .returned (.bool true) ∧ Below W.heap.size W W'

set_option maxRecDepth 100000 in
theorem law_lift {os : Os} {f : FuncId} {fn : Func} {s : ChangeSpec} {H : Type} {enc : TypeId × Value → H}
    (started : os.Started) (noInit : Try.prog.inits.idxOf? f = none) (hfn : Try.prog.funcs[f]? = some fn)
    (witness : ∃ (w : World) (tape : Tape) (i : Input), w.os = os ∧ (w.forCall tape i).Shaped Try.prog ∧ i.vars = [] ∧ Input.okWide Try.prog (w.forCall tape i) .any w.heap.size f i ∧
      s.pre6 enc Try.prog fn [] false (w.forCall tape i).memory i.args ∧ ({} : Assume).holds Try.prog (lone (Frame.enter Try.prog f i.args .normal) [] (w.forCall tape i)))
    (hvars : s.vars = []) (hres : fn.resultTypes = #[4]) (hr : ∀ t ∈ fn.params.toList, Try.prog.readableRec t = true ∧ t < Try.prog.types.size)
    (hs : ∀ ds : List (DataW H), ds.length = fn.params.size → s.fn H (ds ++ []) = { results := [.lit (.bool true)], args := ds })
    (walk : LawWalk f fn.params.toList) :
    ReturnsInHanded {} Try.checked os f .any (s.pre6 enc Try.prog fn [] false) (s.post enc Try.prog fn false true false false) := by
  refine returnsInHanded_of_change (C := Try.checked) own started noInit hfn witness ?_
  intro W base args ds gs before hval hW _ _
  have hW' := hW
  have hlt : ∀ x ∈ before, x.block < W.heap.size := fun x hx => hW.lt x hx
  obtain ⟨p, q, hA, hV, rfl, hfz, hnd⟩ := hW
  have hA1 : DataW.TrodAll enc Try.prog W 0 (fun _ => true) true fn.params.toList args.toList ds p := hA
  rw [hvars] at hV
  obtain ⟨rfl, rfl⟩ := trodVars_none hV
  have hlen : ds.length = fn.params.size := by
    have : ∀ (ts : List TypeId) (vs : List Value) (ds : List (DataW H)) (ps : List MemPlace), DataW.TrodAll enc Try.prog W 0 (fun _ => true) true ts vs ds ps → ds.length = ts.length := by
      intro ts
      induction ts with
      | nil => intro vs ds ps h; obtain ⟨_, rfl, _⟩ := trodAll_nil h; rfl
      | cons t ts ih =>
        intro vs ds ps h
        obtain ⟨v, vs', d, ds', p, q, rfl, rfl, rfl, _, h2⟩ := trodAll_cons h
        simp [ih _ _ _ h2]
    simpa using this _ _ _ _ hA1
  refine (walk H enc W base args ds p (fun j t v h1 h2 => hval j t v (by simpa using h1) h2) hA1).mono fun e W' ⟨he, hb⟩ => ?_
  subst he
  refine ⟨_, rfl, ds, [], p ++ [], [], p, [], hW', ?_, ?_, ?_, ?_, fun h => by cases h⟩
  · rw [hs ds hlen, hres]
    exact trodAll_cons_mk (shut_bool Try.underlying4 true) trodAll_mk0
  · rw [hs ds hlen]
    exact trodAll_stays laidOut hb _ _ _ _ hr hA1 (fun x hx => hlt x (by simp [hx]))
  · rw [hs ds hlen, hvars]
    rfl
  · exact hb.frame _

theorem readable_all {fn : Func} (h : fn.params.all (fun t => Try.prog.readableRec t && decide (t < Try.prog.types.size)) = true) : ∀ t ∈ fn.params.toList, Try.prog.readableRec t = true ∧ t < Try.prog.types.size := by
  intro t ht
  have := (Array.all_eq_true_iff_forall_mem.1 h) t (by simpa using ht)
  simpa using this
end Go.Proofs.Ytledmebhlmpjaaa
namespace Peg
open Go Go.RowKit
/-- 2 to the power of n. -/
def pw (n : Int) : Int := 2 ^ n.toNat
theorem pw_pos (n : Int) : 1 ≤ pw n := by
  unfold pw
  have : (0 : Int) < 2 ^ n.toNat := Int.pow_pos (by omega)
  omega
theorem pw_le {n m : Int} (h0 : 0 ≤ n) (h : n ≤ m) : pw n ≤ pw m := by
  unfold pw
  have h1 : (2 : Nat) ^ n.toNat ≤ 2 ^ m.toNat := Nat.pow_le_pow_right (by omega) (by omega)
  exact_mod_cast h1
theorem pw_62 {n : Int} (h0 : 0 ≤ n) (h : n ≤ 62) : pw n ≤ 4611686018427387904 := by
  have := pw_le h0 h
  have e : pw 62 = 4611686018427387904 := by decide
  omega
theorem pw_wrap {n : Int} (h0 : 0 ≤ n) (h : n ≤ 62) : wrap64 (2 ^ n.toNat) = pw n := by
  have h1 := pw_62 h0 h
  have h2 := pw_pos n
  show wrap64 (pw n) = pw n
  exact IntWalk.wrap64_in _ (by omega)
theorem pw_wrap1 {n : Int} (h0 : 0 ≤ n) (h : n ≤ 62) : wrap64 (pw n - 1) = pw n - 1 := by
  have h1 := pw_62 h0 h
  have h2 := pw_pos n
  exact IntWalk.wrap64_in _ (by omega)
/-- bits of two numbers that are not negative -/
def band (a b : Int) : Int := ((a.toNat &&& b.toNat : Nat) : Int)
def bor (a b : Int) : Int := ((a.toNat ||| b.toNat : Nat) : Int)
def bxor (a b : Int) : Int := ((a.toNat ^^^ b.toNat : Nat) : Int)
/-- a without the bits of b -/
def bdel (a b : Int) : Int := a - band a b
theorem band_nonneg (a b : Int) : 0 ≤ band a b := by unfold band; omega
theorem band_le_right (a b : Int) (h : 0 ≤ b) : band a b ≤ b := by
  unfold band
  have := @Nat.and_le_right a.toNat b.toNat
  omega
theorem band_le_left (a b : Int) (h : 0 ≤ a) : band a b ≤ a := by
  unfold band
  have := @Nat.and_le_left a.toNat b.toNat
  omega
end Peg
namespace Peg
open Go Go.RowKit
theorem ofInt_toNat {a : Int} (h0 : 0 ≤ a) (h1 : a < 9223372036854775808) : (BitVec.ofInt 64 a).toNat = a.toNat := by
  rw [BitVec.toNat_ofInt]
  have : a % ((2 ^ 64 : Nat) : Int) = a := Int.emod_eq_of_lt h0 (by have : ((2 ^ 64 : Nat) : Int) = 18446744073709551616 := by decide
                                                                    omega)
  rw [this]
theorem wrap_nat {n : Nat} (h : n < 9223372036854775808) : IntKind.i64.wrap (n : Int) = n := IntWalk.i64_in _ (by omega)
theorem toNat_lt63 {a : Int} (h0 : 0 ≤ a) (h1 : a < 9223372036854775808) : a.toNat < 2 ^ 63 := by
  have : (2 : Nat) ^ 63 = 9223372036854775808 := by decide
  omega
theorem two63 : (2 : Nat) ^ 63 = 9223372036854775808 := by decide
theorem bits_and {a b : Int} (ha : 0 ≤ a) (ha' : a < 9223372036854775808) (hb : 0 ≤ b) (hb' : b < 9223372036854775808) : bits BinOp.and IntKind.i64 a b = band a b := by
  show IntKind.i64.wrap (((BitVec.ofInt 64 a &&& BitVec.ofInt 64 b).toNat : Nat) : Int) = _
  unfold band
  rw [BitVec.toNat_and, ofInt_toNat ha ha', ofInt_toNat hb hb']
  exact wrap_nat (by have := @Nat.and_le_left a.toNat b.toNat; omega)
theorem bits_or {a b : Int} (ha : 0 ≤ a) (ha' : a < 9223372036854775808) (hb : 0 ≤ b) (hb' : b < 9223372036854775808) : bits BinOp.or IntKind.i64 a b = bor a b := by
  show IntKind.i64.wrap (((BitVec.ofInt 64 a ||| BitVec.ofInt 64 b).toNat : Nat) : Int) = _
  unfold bor
  rw [BitVec.toNat_or, ofInt_toNat ha ha', ofInt_toNat hb hb']
  exact wrap_nat (by have := Nat.or_lt_two_pow (toNat_lt63 ha ha') (toNat_lt63 hb hb'); rw [two63] at this; exact this)
theorem bits_xor {a b : Int} (ha : 0 ≤ a) (ha' : a < 9223372036854775808) (hb : 0 ≤ b) (hb' : b < 9223372036854775808) : bits BinOp.xor IntKind.i64 a b = bxor a b := by
  show IntKind.i64.wrap (((BitVec.ofInt 64 a ^^^ BitVec.ofInt 64 b).toNat : Nat) : Int) = _
  unfold bxor
  rw [BitVec.toNat_xor, ofInt_toNat ha ha', ofInt_toNat hb hb']
  exact wrap_nat (by have := Nat.xor_lt_two_pow (toNat_lt63 ha ha') (toNat_lt63 hb hb'); rw [two63] at this; exact this)
theorem and_not_toNat (x y : BitVec 64) : (x &&& ~~~y).toNat = x.toNat - (x.toNat &&& y.toNat) := by
  have h1 : x = (x &&& ~~~y) + (x &&& y) := by
    rw [BitVec.add_eq_or_of_and_eq_zero]
    · ext i; simp only [BitVec.getElem_or, BitVec.getElem_and, BitVec.getElem_not]; cases x[i] <;> cases y[i] <;> rfl
    · ext i; simp only [BitVec.getElem_zero, BitVec.getElem_and, BitVec.getElem_not]; cases x[i] <;> cases y[i] <;> rfl
  have h2 : (x &&& ~~~y).toNat + (x &&& y).toNat < 2 ^ 64 := by
    have e : (x &&& ~~~y) &&& (x &&& y) = 0#64 := by ext i; simp only [BitVec.getElem_zero, BitVec.getElem_and, BitVec.getElem_not]; cases x[i] <;> cases y[i] <;> rfl
    have := BitVec.toNat_add_of_and_eq_zero e
    rw [← this]
    exact BitVec.isLt _
  have h3 : x.toNat = (x &&& ~~~y).toNat + (x &&& y).toNat := by
    have := congrArg BitVec.toNat h1
    rw [BitVec.toNat_add, Nat.mod_eq_of_lt h2] at this
    exact this
  rw [BitVec.toNat_and] at h3
  have := @Nat.and_le_left x.toNat y.toNat
  simp only [BitVec.toNat_and] at *
  omega
theorem bits_andNot {a b : Int} (ha : 0 ≤ a) (ha' : a < 9223372036854775808) (hb : 0 ≤ b) (hb' : b < 9223372036854775808) : bits BinOp.andNot IntKind.i64 a b = bdel a b := by
  show IntKind.i64.wrap (((BitVec.ofInt 64 a &&& ~~~BitVec.ofInt 64 b).toNat : Nat) : Int) = _
  unfold bdel band
  rw [and_not_toNat, ofInt_toNat ha ha', ofInt_toNat hb hb', wrap_nat (by omega)]
  have := @Nat.and_le_left a.toNat b.toNat
  omega
theorem bdel_zero {a b : Int} : (bdel a b == 0) = (band a b == a) := by
  rw [Bool.eq_iff_iff]; simp [bdel]; omega
end Peg
namespace Peg
open Go Go.RowKit
/-- bit k of p -/
def tb (p k : Int) : Bool := p.toNat.testBit k.toNat
theorem div_pw_toNat {p : Int} (hp : 0 ≤ p) (m : Nat) : (p / 2 ^ m).toNat = p.toNat / 2 ^ m := by
  obtain ⟨n, rfl⟩ := Int.eq_ofNat_of_zero_le hp
  have : ((n : Int) / 2 ^ m) = ((n / 2 ^ m : Nat) : Int) := by
    rw [Int.natCast_ediv]; simp
  rw [this, Int.toNat_natCast, Int.toNat_natCast]
theorem bit_test0 {p : Int} (m : Nat) (hp : 0 ≤ p) (hp2 : p ≤ 9223372036854775807) : (bits BinOp.and IntKind.i64 (p / 2 ^ m) 1 == 1) = p.toNat.testBit m := by
  have h0 : 0 ≤ p / 2 ^ m := Int.ediv_nonneg hp (Int.le_of_lt (Int.pow_pos (by omega)))
  have h1 : (p / 2 ^ m).toNat ≤ p.toNat := by rw [div_pw_toNat hp]; exact Nat.div_le_self _ _
  rw [bits_and h0 (by omega) (by omega) (by omega)]
  unfold band
  rw [div_pw_toNat hp, Nat.testBit_eq_decide_div_mod_eq]
  have : (1 : Int).toNat = 1 := rfl
  rw [this, Nat.and_one_is_mod, Bool.eq_iff_iff]
  simp only [beq_iff_eq, decide_eq_true_eq]
  have h2 := Nat.mod_two_eq_zero_or_one (p.toNat / 2 ^ m)
  generalize p.toNat / 2 ^ m % 2 = x at *
  omega
theorem bit_test {p k : Int} (hp : 0 ≤ p) (hp2 : p ≤ 9223372036854775807) : (bits BinOp.and IntKind.i64 (p / 2 ^ min k.toNat 64) 1 == 1) = tb p k := by
  rw [bit_test0 _ hp hp2]
  unfold tb
  by_cases h : k.toNat ≤ 64
  · rw [Nat.min_eq_left h]
  · have e : ∀ i, 63 ≤ i → p.toNat.testBit i = false := by
      intro i hi
      apply Nat.testBit_lt_two_pow
      have h1 := toNat_lt63 hp (by omega)
      have : (2 : Nat) ^ 63 ≤ 2 ^ i := Nat.pow_le_pow_right (by omega) hi
      omega
    rw [e _ (by omega), e _ (by omega)]
theorem bit_test' {p k : Int} (hp : 0 ≤ p) (hp2 : p ≤ 9223372036854775807) : (bits BinOp.and IntKind.i64 (p / 2 ^ k.toNat) 1 == 1) = tb p k := bit_test0 _ hp hp2
theorem bit_zero0 {p : Int} (m : Nat) (hp : 0 ≤ p) (hp2 : p ≤ 9223372036854775807) : (bits BinOp.and IntKind.i64 (p / 2 ^ m) 1 == 0) = !p.toNat.testBit m := by
  have h0 : 0 ≤ p / 2 ^ m := Int.ediv_nonneg hp (Int.le_of_lt (Int.pow_pos (by omega)))
  have h1 : (p / 2 ^ m).toNat ≤ p.toNat := by rw [div_pw_toNat hp]; exact Nat.div_le_self _ _
  rw [bits_and h0 (by omega) (by omega) (by omega)]
  unfold band
  rw [div_pw_toNat hp, Nat.testBit_eq_decide_div_mod_eq]
  have : (1 : Int).toNat = 1 := rfl
  rw [this, Nat.and_one_is_mod, Bool.eq_iff_iff]
  simp only [beq_iff_eq, Bool.not_eq_true', decide_eq_false_iff_not]
  have h2 := Nat.mod_two_eq_zero_or_one (p.toNat / 2 ^ m)
  generalize p.toNat / 2 ^ m % 2 = x at *
  omega
theorem bit_zero' {p k : Int} (hp : 0 ≤ p) (hp2 : p ≤ 9223372036854775807) : (bits BinOp.and IntKind.i64 (p / 2 ^ k.toNat) 1 == 0) = !tb p k := bit_zero0 _ hp hp2
end Peg
namespace Peg
def inR (x a b : Int) : Bool := decide (a ≤ x) && decide (x ≤ b)
def clockOk (l b m : Int) : Bool := inR l 0 100000 && inR b 0 600 && inR m 0 1000
def resultOk (l s t : Int) : Bool := inR l 1 49 && inR s 0 60 && inR t 0 100000
theorem inR_iff {x a b : Int} : inR x a b = true ↔ a ≤ x ∧ x ≤ b := by simp [inR]
end Peg
namespace Peg
structure Ln where
  f : Int
  o : Int
  t : Int
deriving DecidableEq
def Ln0 : Ln := ⟨0, 0, 0⟩
/-- the holes of a board of size n, in ascending order -/
def holesTo (o : Int) (k : Nat) : List Int := ((List.range k).filter fun i : Nat => tb o (i : Int)).map fun i : Nat => (i : Int)
theorem holesTo_succ_yes (o : Int) (k : Nat) (h : tb o k = true) : holesTo o (k + 1) = holesTo o k ++ [(k : Int)] := by
  simp [holesTo, List.range_succ, h]
theorem holesTo_succ_no (o : Int) (k : Nat) (h : tb o k = false) : holesTo o (k + 1) = holesTo o k := by
  simp [holesTo, List.range_succ, h]
theorem holesTo_length (o : Int) (k : Nat) : (holesTo o k).length ≤ k := by
  unfold holesTo
  rw [List.length_map]
  have := List.length_filter_le (fun i : Nat => tb o (i : Int)) (List.range k)
  simpa using this
end Peg
namespace Peg
def dx (way : Int) : Int := if way = 0 then 1 else if way = 2 then -1 else 0
def dy (way : Int) : Int := if way = 1 then 1 else if way = 3 then -1 else 0
def stepTo (a b o k way : Int) : Int :=
  let x := k % a + dx way
  let y := k / a + dy way
  if inR x 0 (a - 1) = true then if inR y 0 (b - 1) = true then if tb o (y * a + x) = true then y * a + x else -1 else -1 else -1
theorem dx_bd (way : Int) : -1 ≤ dx way ∧ dx way ≤ 1 := by unfold dx; split <;> (try split) <;> omega
theorem dy_bd (way : Int) : -1 ≤ dy way ∧ dy way ≤ 1 := by unfold dy; split <;> (try split) <;> omega
end Peg
