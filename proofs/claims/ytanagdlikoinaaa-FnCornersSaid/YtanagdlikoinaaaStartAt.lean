/-
  Contracts: StartAt.
-/
import Derived.Test.YtanagdlikoinaaaCor
import Derived.Test.YtanagdlikoinaaaRefl
namespace Go.Proofs.Ytanagdlikoinaaa
open Go.RowKit

/-- a room begun at corner k -/
def startL (l : List (Int × Int)) (k : Nat) : List (Int × Int) := l.drop k ++ l.take k
theorem startL_length (l : List (Int × Int)) (k : Nat) : (startL l k).length = l.length := by
  unfold startL
  rw [List.length_append, List.length_drop, List.length_take]
  omega
/-- StartAt's corners, as both texts give them -/
def startV (l : List (Int × Int)) (k : Int) : List (Int × Int) := if hasC l k = true then startL l k.toNat else []

section
variable {P : Program} (w : World)
/-- an append to an empty row that is not nil -/
theorem oper_app_empty {o : Oper} {a : Act} {K : Act → World → Prop} {Q : Exit → Act → World → Prop} (s x : Operand) (t : TypeId)
    (ho : o.op = .call { callee := .builtin .append, args := #[s, x], argTypes := #[t, t] })
    (e : Nat) (i : TypeInfo) (z : Value) (size bytes : Nat) (ht : P.underlying t = some (.slice e)) (hi : P.info? e = some i) (hz : i.zero = some z)
    (hsize : i.size = size) (hby : i.bytes = bytes) (hzs : z.cells.size = size) (hsz : 0 < size)
    (b : Addr) (hs : a.eval s = .slice (some b) 0 0)
    (ad : Addr) (m c : Nat) (news : List Value) (hx : a.eval x = .slice (some ad) m c) (hl : news.length = m * size) (hnews : ∀ j u, news[j]? = some u → w.cell? (ad.add j) = some u)
    (h0 : 0 < m) (h63 : m ≤ maxLen) (hbytes : m * bytes ≤ 140737488355328)
    (h : ∀ v' w', w'.ownsRow w.heap.size e size v' m news → Ext w w' → K (a.put o.dst v') w') : o.wp P a w K Q := by
  subst hsize
  subst hby
  have hsmall : m ≤ 9223372036854775807 := by simp only [maxLen] at h63; omega
  have hn0 : Builtin.nextslicecap (0 + m) 0 = m := by rw [Nat.zero_add]; exact nextslicecap_zero h0
  have hr := run_append_grow (P := P) w t o.type e i z ht hi hz b 0 0 [] (by simp) (fun j v hv => by simp at hv) ad m c news hl hnews (by omega) (by omega) (by rw [hn0]; omega)
  unfold Oper.wp execOp
  simp only [ho, resolve, invoke, builtin, Sem.run_bind, Sem.run_pure, Result.andThen_ok, List.map_toArray, List.map_cons, List.map_nil, hs, hx, hr]
  refine h _ _ ⟨hl, .inr ⟨w.heap.size, _, _, by rw [Nat.zero_add], Nat.le_refl _, heap_alloc_new w.drew _, by have := grownCap_ge w (0 + m) 0 e; omega, grownCap_le_maxLen w (0 + m) 0 e (by omega), ?_, ?_⟩⟩ (((Ext.refl w).drew).alloc _)
  · have := grownCap_ge w (0 + m) 0 e
    simp only [Array.size_append, List.size_toArray, size_zeroCells, hzs, hl, List.length_nil, Nat.zero_add]
    rw [Nat.zero_add] at this
    rw [← Nat.add_mul]
    congr 1
    omega
  · simp only [Array.toList_append, List.nil_append]
    rw [← hl]
    exact List.take_left
end

theorem seg_drop {w : World} {b off : Nat} {l : List (Int × Int)} (h : RPts w (some ⟨b, off, none⟩) l) (m : Nat) : ∀ j u, (flat (l.drop m))[j]? = some u → w.cell? ((⟨b, off + m * 2, none⟩ : Addr).add j) = some u := by
  intro j u hu
  obtain ⟨q, hq, h2⟩ := flat_at _ j u hu
  rw [List.length_drop] at hq
  obtain ⟨_, hx, hy⟩ := h.cell (show m + q < l.length by omega)
  have e1 : gx (l.drop m) q = gx l (m + q) := by unfold gx; simp
  have e2 : gy (l.drop m) q = gy l (m + q) := by unfold gy; simp
  rcases h2 with ⟨rfl, rfl⟩ | ⟨rfl, rfl⟩
  · rw [e1, ← hx, show ((⟨b, off + m * 2, none⟩ : Addr).add (q * 2)) = ⟨b, off + (m + q) * 2, none⟩ by simp [Addr.add, Nat.add_mul, Nat.add_assoc]]
  · rw [e2, ← hy, show ((⟨b, off + m * 2, none⟩ : Addr).add (q * 2 + 1)) = ⟨b, off + (m + q) * 2 + 1, none⟩ by simp [Addr.add, Nat.add_mul, Nat.add_assoc]]
theorem seg_take {w : World} {b off : Nat} {l : List (Int × Int)} (h : RPts w (some ⟨b, off, none⟩) l) (m : Nat) : ∀ j u, (flat (l.take m))[j]? = some u → w.cell? ((⟨b, off, none⟩ : Addr).add j) = some u := by
  intro j u hu
  obtain ⟨q, hq, h2⟩ := flat_at _ j u hu
  rw [List.length_take] at hq
  obtain ⟨_, hx, hy⟩ := h.cell (show q < l.length by omega)
  have e1 : gx (l.take m) q = gx l q := by unfold gx; simp only [List.getD_eq_getElem?_getD, List.getElem?_take]; rw [if_pos (by omega)]
  have e2 : gy (l.take m) q = gy l q := by unfold gy; simp only [List.getD_eq_getElem?_getD, List.getElem?_take]; rw [if_pos (by omega)]
  rcases h2 with ⟨rfl, rfl⟩ | ⟨rfl, rfl⟩
  · rw [e1, ← hx, show ((⟨b, off, none⟩ : Addr).add (q * 2)) = ⟨b, off + q * 2, none⟩ by simp [Addr.add]]
  · rw [e2, ← hy, show ((⟨b, off, none⟩ : Addr).add (q * 2 + 1)) = ⟨b, off + q * 2 + 1, none⟩ by simp [Addr.add]; omega]

theorem ownsRow_mono {w : World} {base base' e size n : Nat} {v : Value} {xs : List Value} (h : w.ownsRow base e size v n xs) (hb : base' ≤ base) : w.ownsRow base' e size v n xs := by
  obtain ⟨h1, h2⟩ := h
  refine ⟨h1, ?_⟩
  rcases h2 with h2 | ⟨g, cap, cur, hv, hg, h3⟩
  · exact .inl h2
  · exact .inr ⟨g, cap, cur, hv, by omega, h3⟩

theorem flat_one (l : List (Int × Int)) : ∀ u ∈ flat l, u.oneCell' = true := by
  intro u hu
  simp only [flat, List.mem_flatMap] at hu
  obtain ⟨p, _, hp⟩ := hu
  simp only [List.mem_cons, List.not_mem_nil, or_false] at hp
  rcases hp with rfl | rfl <;> rfl

/-- an empty row that is not nil -/
def Emp (v : Value) (_ : World) : Prop := ∃ b, v = .slice (some b) 0 0
theorem Emp_stable : Stable Emp := fun _ _ _ h _ => h
theorem Emp_mk (b : Addr) (w : World) : Emp (.slice (some b) 0 0) w := ⟨b, rfl⟩
/-- a row of the call's own with these cells -/
def AppR (base : Nat) (T : TypeId) (n : Nat) (xs : List Value) (v : Value) (w : World) : Prop := w.ownsRow base T 2 v n xs
theorem AppR_stable (base : Nat) (T : TypeId) (n : Nat) (xs : List Value) : Stable (AppR base T n xs) := fun _ _ _ h hx => ownsRow_ext h hx

def RetR (T : TypeId) (x : List (Int × Int)) (w : World) (e : Ending) (w' : World) : Prop := ∃ A' c', e = .returned (.agg #[.slice A' x.length c']) ∧ OwnS w' w.heap.size w'.heap.size T A' x ∧ Ext w w'

end Go.Proofs.Ytanagdlikoinaaa
