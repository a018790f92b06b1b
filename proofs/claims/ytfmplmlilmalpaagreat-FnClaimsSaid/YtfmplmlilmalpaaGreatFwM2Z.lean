/- FwM2Z: contracts of sweeperOf and FewestSweeps of the program. Conditions: the board is small, the positions are in order. -/
import Derived.Test.YtfmplmlilmalpaaGreatClA
import Derived.Deep.RegionWith
import Derived.Deep.DeepCutAuto
set_option linter.unusedVariables false
set_option linter.unusedSimpArgs false
namespace Go.Proofs.YtfmplmlilmalpaaGreat
open Go.ChangeShapes Go.WideShapes Go.ChangeAt Go.RowKit Peg Go.Sort
theorem Memo.setOther {w : World} {K E : TypeId} {B : Nat} {KS : List Lit} {G : Lit → Int} (h : Memo w K E B KS G) {a : Addr} (ha : a.block ≠ B) (v : Value) : Memo (w.setCell a v) K E B KS G := by
  obtain ⟨es, ⟨es0, clock, h1, h3⟩, h2⟩ := h
  refine ⟨es, ⟨es0, clock, ?_, h3⟩, h2⟩
  rw [← h1]
  exact Below.heap_setCell _ _ _ _ (fun e => ha e.symm)
theorem Memo.drewM {w : World} {K E : TypeId} {B : Nat} {KS : List Lit} {G : Lit → Int} (h : Memo w K E B KS G) : Memo w.drew K E B KS G := h.below ((Below.refl _ _).drew)
theorem Memo.allocM {w : World} {K E : TypeId} {B : Nat} {KS : List Lit} {G : Lit → Int} (h : Memo w K E B KS G) (o : Obj) : Memo (w.alloc o) K E B KS G := h.below ((Below.refl _ _).alloc (Nat.le_refl _) _)
theorem Own.drewO {α : Type} {E : Elt α} {w : World} {base : Nat} {v : Value} {l : List α} (h : Own E w base v l) : Own E w.drew base v l := h.keep ((Below.refl _ _).drew)
theorem Own.setB {α : Type} {E : Elt α} {w : World} {base : Nat} {v : Value} {l : List α} (h : Own E w base v l) {a : Addr} (ha : a.block < base) (u : Value) : Own E (w.setCell a u) base v l :=
  h.keep_of fun k hk _ _ => Below.heap_setCell _ _ _ _ (fun e => by omega)
theorem Own.lnAt {w : World} {base : Nat} {aL : Option Addr} {n cL : Nat} {L : List Ln} (h : Own ELine w base (.slice aL n cL) L) : LnAt w aL L := fun i hi => by
  obtain ⟨a, c, hv, _, hg⟩ := h.lineG
  obtain ⟨b, h1, h2, h3, h4, h5, h6⟩ := hg i hi
  simp only [Value.slice.injEq] at hv
  obtain ⟨rfl, _, _⟩ := hv
  exact ⟨b, h1, h3, h4, h5, h6⟩
theorem Memo.made' {w : World} {K E : TypeId} {B : Nat} {KS : List Lit} {G : Lit → Int} (h : B = w.heap.size) : Memo (w.alloc (.map #[] 0)) K E B KS G := by
  subst h
  exact Memo.made _ _ _ _ _
/-- what sweeperOf returns -/
def RetSw (w : World) (a b o g : Int) (e : Ending) (w' : World) : Prop :=
  ∃ aL cL aB cB B, e = .returned (.agg #[.slice aL (linesOf a b o).length cL, .slice aB (spreadOf a b o g true).length cB, .int .i64 g, .map (some B)]) ∧ Sw w' a b o g aL aB cB B ∧ w.heap.size ≤ B ∧ Below w.heap.size w w'
set_option maxHeartbeats 16000000 in
set_option maxRecDepth 100000 in
theorem sweeperOf_any (a b o g : Int) (hg : g ≤ 9223372036854775807) (w : World) :
    Calls Tryz.prog 61 #[.agg #[.int .i64 a, .int .i64 b, .int .i64 o], .int .i64 g] w (RetSw w a b o g) := by
  have hmm := @run_makeMap Tryz.prog
  have HLN : Hid (∀ W, Calls Tryz.prog 71 #[.agg #[.int .i64 a, .int .i64 b, .int .i64 o]] W (RetLines W (linesOf a b o))) := fun W => LinesOf_any a b o W
  have HSP : Hid (∀ W, Calls Tryz.prog 58 #[.agg #[.int .i64 a, .int .i64 b, .int .i64 o], .int .i64 g, .bool true] W (RetBools W (spreadOf a b o g true))) := fun W => spreadOf_any a b o g true hg W
  unfold RetLines at HLN
  unfold RetBools at HSP
  unfold RetSw Sw
  go_enter Tryz.func61, Tryz.ntmps61
  go_wp2_with fail
  go_region_with (first | (go_at_call 71; refine (HLN.out _).mono ?_; rintro e wl ⟨vL, rfl, hoL, hbL⟩; have HBL := Lib.hid hbL; have HOL := Lib.hid hoL; obtain ⟨aL, cL, rfl, -, -⟩ := hoL.lineG; obtain ⟨hcL, hfL, hzL, -⟩ := bcell hbL; (try simp only [World.size_alloc, World.size_drew] at hzL); have gL0 : w.heap.size < wl.heap.size := (by omega); have gL1 : w.heap.size + 1 < wl.heap.size := (by omega); (try have gL2 : w.heap.size + 1 + 1 < wl.heap.size := by omega); clear hbL hoL) | (go_at_call 58; refine (HSP.out _).mono ?_; rintro e wb ⟨vB, rfl, hoB, hbB⟩; have HBB := Lib.hid hbB; have HOB := Lib.hid hoB; obtain ⟨aB, cB, rfl, -, -⟩ := hoB.bool; obtain ⟨hcB, hfB, hzB, -⟩ := bcell hbB; (try simp only [World.size_alloc, World.size_drew] at hzB); have gB0 : w.heap.size < wb.heap.size := (by omega); have gB1 : w.heap.size + 1 < wb.heap.size := (by omega); (try have gB2 : w.heap.size + 1 + 1 < wb.heap.size := by omega); clear hbB hoB))
  all_goals go_wp2_with fail
  all_goals (try simp only [Exit.inBlock, Exit.then])
  all_goals first
    | (refine bodyPost_ret (v := .agg #[.slice aL (linesOf a b o).length cL, .slice aB (spreadOf a b o g true).length cB, .int .i64 g, .map (some wl.heap.size)]) ?_ rfl ?_; (focus (simp [results, Tryz.results61, go_sem, *]; done)); refine ⟨aL, cL, aB, cB, wl.heap.size, rfl, ⟨?_, ?_, w.heap.size + 1 + 1, ?_⟩, by omega, ?_⟩)
    | (refine bodyPost_ret (v := .agg #[.slice aL (linesOf a b o).length cL, .slice aB (spreadOf a b o g true).length cB, .int .i64 g, .map (some wb.heap.size)]) ?_ rfl ?_; (focus (simp [results, Tryz.results61, go_sem, *]; done)); refine ⟨aL, cL, aB, cB, wb.heap.size, rfl, ⟨?_, ?_, w.heap.size + 1 + 1, ?_⟩, by omega, ?_⟩)
    | (refine bodyPost_ret (v := .agg #[.slice aL (linesOf a b o).length cL, .slice aB (spreadOf a b o g true).length cB, .int .i64 g, .map (some (w.heap.size + 1 + 1))]) ?_ rfl ?_; (focus (simp [results, Tryz.results61, go_sem, *]; done)); refine ⟨aL, cL, aB, cB, _, rfl, ⟨?_, ?_, w.heap.size + 1 + 1, ?_⟩, by omega, ?_⟩)
    | skip
  all_goals (try (with_reducible refine Own.lnAt (base := w.heap.size + 1 + 1) (n := (linesOf a b o).length) (cL := cL) ?_))
  all_goals (repeat' (first | (with_reducible refine Own.alloc ?_ _) | (with_reducible refine Own.setB ?_ (by first | omega | (simp; done) | (simp; omega)) _) | (with_reducible refine Own.drewO ?_) | (refine Own.mono HOL.out ?_; (first | omega | (simp; done) | (simp; omega))) | (refine Own.mono HOB.out ?_; (first | omega | (simp; done) | (simp; omega))) | (with_reducible refine Own.keep ?_ HBL.out) | (with_reducible refine Own.keep ?_ HBB.out)))
  all_goals (repeat' (first | (with_reducible refine Memo.made' ?_; (first | omega | (simp; done) | (simp; omega))) | (with_reducible refine Memo.allocM ?_ _) | (with_reducible refine Memo.setOther ?_ (by first | omega | (simp; done) | (simp; omega)) _) | (with_reducible refine Memo.drewM ?_) | (with_reducible refine Memo.below ?_ HBL.out) | (with_reducible refine Memo.below ?_ HBB.out)))
  all_goals (try (have h1 := HBL.out; have h2 := HBB.out; (repeat' first | (with_reducible exact Below.refl _ _) | (with_reducible refine Below.alloc ?_ ?_ _) | (with_reducible refine Below.drew ?_) | (with_reducible refine Below.setCell ?_ ?_ _) | (with_reducible refine below_via (by assumption) ?_ ?_) | go_size)))
set_option maxHeartbeats 2000000 in
set_option maxRecDepth 100000 in
theorem FewestSweeps_any (a b o p g : Int) (hs : isSmall a b o = true) (hp : posOk a b o p = true) (hg : posOk a b o g = true) (w : World) :
    Calls Tryz.prog 26 #[.agg #[.int .i64 a, .int .i64 b, .int .i64 o], .int .i64 p, .int .i64 g] w fun e w' => e = .returned (.int .i64 (fewestSweeps a b o p g)) ∧ Below w.heap.size w w' := by
  have HSO : Hid (∀ W, Calls Tryz.prog 61 #[.agg #[.int .i64 a, .int .i64 b, .int .i64 o], .int .i64 g] W (RetSw W a b o g)) := fun W => sweeperOf_any a b o g (by have := pos_lt hg; omega) W
  have HHAS : Hid (∀ aL aB cB B W, Sw W a b o g aL aB cB B → Calls Tryz.prog 59 #[.slice aB (spreadOf a b o g true).length cB, .int .i64 p] W fun e w' => e = .returned (.bool (reach a b o p g false)) ∧ Below W.heap.size W w') := fun aL aB cB B W h => by
    obtain ⟨_, _, base, h3⟩ := h
    rw [← has_reach]
    exact has_any _ _ base _ W h3
  have HV : Hid (fewestSweeps a b o p g = if reach a b o p g false = true then fewest a b o g p (-1) else -1) := rfl
  have HFW : Hid (reach a b o p g false = true → ∀ aL aB cL cB B W, Sw W a b o g aL aB cB B → Calls Tryz.prog 62 #[.agg #[.slice aL (linesOf a b o).length cL, .slice aB (spreadOf a b o g true).length cB, .int .i64 g, .map (some B)], .int .i64 p, .int .i64 (-1)] W fun e w' => e = .returned (.int .i64 (fewest a b o g p (-1))) ∧ Sw w' a b o g aL aB cB B ∧ W.grownBy w' (some B)) := fun hr aL aB cL cB B W h => fewest_any a b o g hs hg aL aB cL cB B _ p (-1) W rfl hp hr (by omega) (by omega) h
  unfold RetSw at HSO
  clear hs hp hg
  generalize fewestSweeps a b o p g = fv at *
  generalize fewest a b o g p (-1) = fw at *
  generalize (linesOf a b o).length = nL at *
  generalize (spreadOf a b o g true).length = nB at *
  generalize reach a b o p g false = rr at *
  go_enter Tryz.func26, Tryz.ntmps26
  go_wp2_with fail
  refine (HSO.out _).mono ?_
  rintro e w2 ⟨aL, cL, aB, cB, B, rfl, hS, hBB, hb2⟩
  have hz2 := hb2.size
  simp only [World.size_alloc] at hz2 hBB
  have HB2 : Hid (Below w.heap.size w w2) := ((Below.refl _ _).alloc (Nat.le_refl _) _).trans (hb2.mono (by simp))
  have hAL : Below w2.heap.size w2 (w2.alloc (.cells #[.slice aL nL cL, .slice aB nB cB, .int .i64 g, .map (some B)] 83)) := (Below.refl _ _).alloc (Nat.le_refl _) _
  have HS3 := Lib.hid (hS.below hAL)
  have hBlt := hS.1.lt
  have HAL := Lib.hid hAL
  clear hS hb2 hAL
  have HHS := Lib.hid (fun W h => HHAS.out aL aB cB B W h)
  cases rr
  · have HE : Hid (fv = -1) := by show _ = _; rw [HV.out]; rfl
    go_wp2_with (go_at_call 59; refine (HHS.out _ HS3.out).mono ?_; rintro e w3 ⟨rfl, hb3⟩)
    all_goals go_ret
    all_goals exact ⟨by simp [HE.out], HB2.out.trans ((HAL.out.trans (hb3.mono (by simp))).mono (by omega))⟩
  · have HE : Hid (fv = fw) := by show _ = _; rw [HV.out]; rfl
    have HF := Lib.hid (HFW.out rfl)
    go_wp2_with (go_at_call 59; refine (HHS.out _ HS3.out).mono ?_; rintro e w3 ⟨rfl, hb3⟩; have hS3 := Lib.hid (HS3.out.below hb3); have HB3 := Lib.hid (HAL.out.trans (hb3.mono (by simp))); have hz3 := hb3.size; simp only [World.size_alloc] at hz3; have hbox : ∀ j, w3.cell? ⟨w2.heap.size, j, none⟩ = #[Value.slice aL nL cL, .slice aB nB cB, .int .i64 g, .map (some B)][j]? := (fun j => (hb3.cell (by simp)).trans (by simp)); have gW : w2.heap.size < w3.heap.size := (by omega); clear hb3)
    refine (HF.out aL aB cL cB B _ hS3.out).mono ?_
    rintro e w4 ⟨rfl, -, hg4⟩
    have HG4 := Lib.hid (below_gro (by omega) hg4)
    clear hg4
    go_wp2_with fail
    all_goals go_ret
    all_goals exact ⟨by simp [HE.out], HB2.out.trans ((HB3.out.mono (by omega)).trans (HG4.out.mono (by omega)))⟩
end Go.Proofs.YtfmplmlilmalpaaGreat
