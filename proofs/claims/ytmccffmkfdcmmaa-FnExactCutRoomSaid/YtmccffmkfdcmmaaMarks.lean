/-
  A world in which only some blocks have turned: what the laws' marks leave as it was.
-/
import Derived.Test.YtmccffmkfdcmmaaInts
import Derived.Test.YtmccffmkfdcmmaaRoomLaw
namespace Go.Proofs.Ytmccffmkfdcmmaa
open Go.RowKit

/-- w' is w with new blocks; of the old ones only those that R names may have turned. -/
structure Mut (R : Nat → Prop) (w w' : World) : Prop where
  os : w'.os = w.os
  tape : w'.tape = w.tape
  output : w'.output = w.output
  size : w.heap.size ≤ w'.heap.size
  block : ∀ k, k < w.heap.size → ¬ R k → w'.heap[k]? = w.heap[k]?

section
variable {R : Nat → Prop} {w a b : World}
theorem Mut.of_ext (h : Ext w a) : Mut R w a := ⟨h.below.os, h.below.tape, h.below.output, h.size, fun k hk _ => h.below.block k hk⟩
theorem Mut.refl (w : World) : Mut R w w := Mut.of_ext (Ext.refl w)
theorem Mut.ext (h : Mut R w a) (hx : Ext a b) : Mut R w b :=
  ⟨hx.below.os.trans h.os, hx.below.tape.trans h.tape, hx.below.output.trans h.output, Nat.le_trans h.size hx.size, fun k hk hr => (hx.below.block k (Nat.lt_of_lt_of_le hk h.size)).trans (h.block k hk hr)⟩
theorem Mut.chg {lo hi : Nat} (h : Mut R w a) (hc : Chg lo hi a b) (hR : ∀ k, lo ≤ k → k < hi → R k) : Mut R w b :=
  ⟨hc.os.trans h.os, hc.tape.trans h.tape, hc.output.trans h.output, by rw [hc.size]; exact h.size, fun k hk hr => (hc.block k (fun hb => hr (hR k hb.1 hb.2))).trans (h.block k hk hr)⟩
theorem Mut.cell (h : Mut R w a) {g : Nat} (hg : g < w.heap.size) (hr : ¬ R g) (o : Nat) : a.cell? ⟨g, o, none⟩ = w.cell? ⟨g, o, none⟩ := World.cell?_of_block (w := w) (a := ⟨g, o, none⟩) (h.block g hg hr)
theorem Mut.pts {lo hi : Nat} {A : Option Addr} {l : List (Int × Int)} (h : Mut R w a) (hp : Pts w lo hi A l) (hh : hi ≤ w.heap.size) (hr : ∀ k, lo ≤ k → k < hi → ¬ R k) : Pts a lo hi A l := fun hl =>
  let ⟨g, off, e, a1, a2, h3⟩ := hp hl
  ⟨g, off, e, a1, a2, fun k hk => ⟨(h.cell (by omega) (hr g a1 a2) _).trans (h3 k hk).1, (h.cell (by omega) (hr g a1 a2) _).trans (h3 k hk).2⟩⟩
theorem Mut.rpts {B : Nat} {A : Option Addr} {l : List (Int × Int)} (h : Mut R w a) (hp : Pts w 0 B A l) (hh : B ≤ w.heap.size) (hr : ∀ k, R k → B ≤ k) : RPts a A l :=
  (h.pts hp hh (fun k _ hk hc => by have := hr k hc; omega)).more (Nat.le_refl _) (Nat.le_trans hh h.size)
theorem Mut.ownI {lo hi : Nat} {T : TypeId} {A : Option Addr} {l : List Int} (h : Mut R w a) (ho : OwnI w lo hi T A l) (hr : ∀ k, lo ≤ k → k < hi → ¬ R k) : OwnI a lo hi T A l := fun hl => by
  obtain ⟨g, cs, e, a1, a2, h3, h4⟩ := ho hl
  have hlt : g < w.heap.size := by
    rcases Nat.lt_or_ge g w.heap.size with h5 | h5
    · exact h5
    · rw [Array.getElem?_eq_none h5] at h3; cases h3
  exact ⟨g, cs, e, a1, a2, (h.block g hlt (hr g a1 a2)).trans h3, h4⟩
theorem Mut.ownS {lo hi : Nat} {T : TypeId} {A : Option Addr} {l : List (Int × Int)} (h : Mut R w a) (ho : OwnS w lo hi T A l) (hr : ∀ k, lo ≤ k → k < hi → ¬ R k) : OwnS a lo hi T A l := fun hl =>
  let ⟨g, e, a1, a2, h3⟩ := ho hl
  ⟨g, e, a1, a2, h3.same (h.block g h3.lt (hr g a1 a2))⟩
theorem Mut.below {v : World} (hv : Ext v w) (h : Mut R w a) (hr : ∀ k, R k → v.heap.size ≤ k) : Below v.heap.size v a :=
  ⟨h.os.trans hv.below.os, h.tape.trans hv.below.tape, h.output.trans hv.below.output, Nat.le_trans hv.size h.size, fun k hk => (h.block k (Nat.lt_of_lt_of_le hk hv.size) (fun hc => by have := hr k hc; omega)).trans (hv.below.block k hk)⟩
end

/-- two ranges of blocks -/
def InR (lo hi lo' hi' k : Nat) : Prop := (lo ≤ k ∧ k < hi) ∨ (lo' ≤ k ∧ k < hi')
theorem notR {lo hi lo' hi' k : Nat} (h1 : k < lo ∨ hi ≤ k) (h2 : k < lo' ∨ hi' ≤ k) : ¬ InR lo hi lo' hi' k := fun h => by
  rcases h with ⟨a, b⟩ | ⟨a, b⟩ <;> omega

end Go.Proofs.Ytmccffmkfdcmmaa
