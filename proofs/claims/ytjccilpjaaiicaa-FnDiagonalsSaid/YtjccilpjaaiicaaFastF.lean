/-
  Steps of a drawn region whose values are all known, over an evaluation that is a variable. No program in sight.
-/
import Derived.Test.YtjccilpjaaiicaaJ1
namespace Go.Proofs.Ytjccilpjaaiicaa
open Go.RowKit

section
variable {P : Program} {ops : Array Oper} {Q : Exit → Act → World → Prop}
/-- what the operations ahead have given -/
def After (V : Nat → Value → World → Prop) (o : Oper) (u : Nat → Value) (w : World) : Prop := ∀ e ∈ o.after.toList, Region.binds .any e = true → V e.on (u e.on) w
theorem After.get {V : Nat → Value → World → Prop} {o : Oper} {u : Nat → Value} {w : World} (hd : After V o u w) (k : Nat) (e : Edge) (h : o.after.toList[k]? = some e) (hb : Region.binds .any e = true) : V e.on (u e.on) w := hd e (List.mem_of_getElem? h) hb

theorem wanted_none {o : Oper} {y : Nat → Option Bool} (hg : o.guard = none) : Region.wanted o y = true := by simp [Region.wanted, hg]
theorem wanted_on {o : Oper} {a : Act} (j d : Nat) (b : Bool) (hg : o.guard = some (j, b)) (hj : (ops[j]?).bind (·.dst) = some d) (hy : a.tmps[d]? = some (.bool b)) : Region.wanted o (yielded ops a.tmps) = true := by
  simp [Region.wanted, hg, yielded, hj, hy]

theorem then_normal {K : Act → World → Prop} {a : Act} {w : World} (h : K a w) : Exit.then K Q .normal a w := h

theorem AllV.get : ∀ (l : List (Value → World → Prop)) (n i : Nat) (u : Nat → Value) (w : World) (p : Value → World → Prop), AllV l n u w → l[i]? = some p → p (u (n + i)) w
  | [], _, _, _, _, _, _, h => by simp at h
  | q :: l, n, 0, u, w, p, hd, h => by
    simp at h
    subst h
    exact hd.1
  | q :: l, n, i + 1, u, w, p, hd, h => by
    have := AllV.get l (n + 1) i u w p hd.2 (by simpa using h)
    rwa [show n + 1 + i = n + (i + 1) from by omega] at this

variable {fr : (Nat → Value) → Act} {V : Nat → Value → World → Prop} {C : World → Prop} {W : World} {i : Nat} {o : Oper}
theorem FStep.value (x : Value) (hw : ∀ u w, After V o u w → Region.wanted o (yielded ops (fr u).tmps) = true) (hput : ∀ u v, (fr u).put o.dst v = fr (upd u i v)) (hV : ∀ w, V i x w)
    (h : ∀ u w, Ext W w → C w → After V o u w → ∀ ρ, ρ = (fr u).eval → (execOp ρ o).run P w = .ok (.value x) w) : FStep P ops Q fr V C W i o := by
  intro u w h1 h2 h3 K hK
  rw [if_pos (hw u w h3)]
  unfold Oper.wp
  rw [h u w h1 h2 h3 _ rfl, Oper.upon_value, hput]
  exact hK _ _ (hV w) (Ext.refl w)
theorem FStep.call (x : Value) (f : FuncId) (args : Array Value) (hw : ∀ u w, After V o u w → Region.wanted o (yielded ops (fr u).tmps) = true) (hput : ∀ u v, (fr u).put o.dst v = fr (upd u i v)) (hV : ∀ w, V i x w)
    (h : ∀ u w, Ext W w → C w → After V o u w → ∀ ρ, ρ = (fr u).eval → (execOp ρ o).run P w = .ok (.enter f args) w)
    (hc : ∀ w, Calls P f args w fun e w' => e = .returned x ∧ Ext w w') : FStep P ops Q fr V C W i o := by
  intro u w h1 h2 h3 K hK
  rw [if_pos (hw u w h3)]
  unfold Oper.wp
  rw [h u w h1 h2 h3 _ rfl, Oper.upon_enter]
  refine (hc w).mono ?_
  rintro e w' ⟨rfl, hx⟩
  show K ((fr u).put o.dst x) w'
  rw [hput]
  exact hK _ _ (hV w') hx
theorem FStep.callC (x : Value) (f : FuncId) (args : Array Value) (hw : ∀ u w, After V o u w → Region.wanted o (yielded ops (fr u).tmps) = true) (hput : ∀ u v, (fr u).put o.dst v = fr (upd u i v)) (hV : ∀ w, V i x w)
    (h : ∀ u w, Ext W w → C w → After V o u w → ∀ ρ, ρ = (fr u).eval → (execOp ρ o).run P w = .ok (.enter f args) w)
    (hc : ∀ w, Ext W w → Calls P f args w fun e w' => e = .returned x ∧ Ext w w') : FStep P ops Q fr V C W i o := by
  intro u w h1 h2 h3 K hK
  rw [if_pos (hw u w h3)]
  unfold Oper.wp
  rw [h u w h1 h2 h3 _ rfl, Oper.upon_enter]
  refine (hc w h1).mono ?_
  rintro e w' ⟨rfl, hx⟩
  show K ((fr u).put o.dst x) w'
  rw [hput]
  exact hK _ _ (hV w') hx
end

end Go.Proofs.Ytjccilpjaaiicaa
