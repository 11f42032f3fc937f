/- Lemmas. Conditions: those of each theorem. -/
import Derived.Test.YtpapfpoefiikpaaGreatDoorVAuto
namespace Go.K
open Go
variable {P : Program} {J : Cls} {S : Nat → Value}
inductive ResV (P : Program) (J : Cls) (S : Nat → Value) : ResultVar → Value → Prop
  | tmp {t : Nat} {v : Value} (h : S t = v) : ResV P J S (.tmp t) v
  | agg {t T n : Nat} {p : Addr} {cs : List Value} [h : AG P T n] (hp : S t = .pointer (some p)) (hn : cs.length = n) (hc : Cells J p cs) : ResV P J S (.cell t T) (.agg cs.toArray)
  | one {t T : Nat} {p : Addr} {v : Value} [h : NA P T] (hp : S t = .pointer (some p)) (hc : Cell J p v) : ResV P J S (.cell t T) v
def ResAll (P : Program) (J : Cls) (S : Nat → Value) : List ResultVar → List Value → Prop
  | [], [] => True
  | r :: rs, v :: vs => ResV P J S r v ∧ ResAll P J S rs vs
  | _, _ => False
def resOf (tmps : Array Value) (r : ResultVar) : Sem Value :=
  match r with
  | .tmp t => pure (tmps.getD t undef)
  | .cell b T => do loadVar T (← asAddr (tmps.getD b undef))
theorem run_loadCell1 {p : Addr} {v : Value} {d : TypeDesc} {T : Nat} (hT : P.underlying T = some d) (hd : isAggD d = false) (hc : Cell J p v) {w : World} (hw : J.p w) : (loadVar T p).run P w = .ok v w := by
  have := hc w hw
  simp [loadVar, run_isAgg hT, hd, this]
theorem ResV.run {r : ResultVar} {v : Value} {a : Act} {w : World} (hr : ResV P J S r v) (ha : ∀ t, a.tmps.getD t undef = S t) (hw : J.p w) :
    (resOf a.tmps r).run P w = .ok v w := by
  cases hr with
  | tmp h => simp only [resOf, ha, h, Sem.run_pure]
  | agg hp hn hc =>
    rename_i h
    obtain ⟨d, h1, h2, h3⟩ := h.h
    simp only [resOf, ha, hp]
    simp [asAddr, run_loadCell h1 h2 h3 hn hc hw]
  | one hp hc =>
    rename_i h
    obtain ⟨d, h1, h2⟩ := h.h
    simp only [resOf, ha, hp]
    simp [asAddr, run_loadCell1 h1 h2 hc hw]
theorem mapM_run {a : Act} {w : World} (ha : ∀ t, a.tmps.getD t undef = S t) (hw : J.p w) : ∀ {rs : List ResultVar} {vs : List Value}, ResAll P J S rs vs →
    (rs.mapM (resOf a.tmps)).run P w = .ok vs w
  | [], [], _ => rfl
  | r :: rs, v :: vs, h => by
    rw [List.mapM_cons, Sem.run_bind, ResV.run h.1 ha hw]
    simp only [Result.andThen_ok]
    rw [Sem.run_bind, mapM_run ha hw h.2]
    rfl
  | [], _ :: _, h => h.elim
  | _ :: _, [], h => h.elim
def tup : List Value → Value
  | [v] => v
  | vs => .tuple vs.toArray
theorem results_run {fn : Func} {rs : List ResultVar} {vs : List Value} {a : Act} {w : World} (hr : fn.results = rs.toArray) (ha : ∀ t, a.tmps.getD t undef = S t) (hw : J.p w) (h : ResAll P J S rs vs) : (results fn a.tmps).run P w = .ok (tup vs) w := by
  have e : results fn a.tmps = (do let vs ← fn.results.mapM (resOf a.tmps); pure (if h : vs.size = 1 then vs[0] else .tuple vs)) := rfl
  rw [e, hr, List.mapM_toArray]
  simp only [Sem.run_bind, Sem.run_map, mapM_run ha hw h, Result.andThen_ok, Sem.run_pure]
  cases vs with
  | nil => rfl
  | cons v vs => cases vs with
    | nil => rfl
    | cons u vs => simp [tup]
theorem fin_res {N : Nat} {f : Nat → Value} {s : List (Nat × Value)} {fn : Func} {R : Ending → World → Prop} {e : Exit} {rs : List ResultVar} {vs : List Value} (hr : fn.results = rs.toArray) (he : (match e with | .normal | .ret => true | _ => false) = true) (h : ResAll P J (fr f s) rs vs) {v : Value} (hv : tup vs = v) (hR : ∀ w, J.p w → R (.returned v) w) :
    Post N [] (bodyPost P fn R) e f s J := fun a w' ha hw => by
  have h1 := results_run hr ha.get hw h
  rw [hv] at h1
  cases e <;> first | exact ⟨ha.defers, _, h1, hR w' hw⟩ | cases he
end Go.K
