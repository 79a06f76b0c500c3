/-
  slices.SortFunc at a row of points, by the distance from a point: the closure's contract and the sort's.
-/
import Derived.Test.YtjccilpjaaiicaaSortLay
import Derived.Test.YtjccilpjaaiicaaJ3
import Derived.Test.YtjccilpjaaiicaaJ1
namespace Go.Proofs.Ytjccilpjaaiicaa
open Go.RowKit

/-- only draws and new blocks have come -/
def Gr (w w' : World) : Prop := ∃ q os, w' = Go.Sort.grow (w.drewN q) os
theorem Gr.refl (w : World) : Gr w w := ⟨0, #[], by rw [World.drewN_zero, Go.Sort.grow_empty]⟩
theorem drewN_add (w : World) (q r : Nat) : (w.drewN q).drewN r = w.drewN (q + r) := by simp [World.drewN, Nat.add_assoc]
theorem Gr.trans {a b c : World} (h : Gr a b) (k : Gr b c) : Gr a c := by
  obtain ⟨q, os, rfl⟩ := h
  obtain ⟨r, ps, rfl⟩ := k
  refine ⟨q + r, os ++ ps, ?_⟩
  show Go.Sort.grow (Go.Sort.grow ((a.drewN q).drewN r) os) ps = _
  rw [Go.Sort.grow_grow, drewN_add]
theorem Gr.alloc {a b : World} (h : Gr a b) (o : Obj) : Gr a (b.alloc o) := h.trans ⟨0, #[o], by rw [World.drewN_zero, Go.Sort.alloc_eq_grow]⟩
theorem Gr.drew {a b : World} (h : Gr a b) : Gr a b.drew := h.trans ⟨1, #[], by rw [Go.Sort.grow_empty]; rfl⟩
theorem Gr.ext {a b : World} (h : Gr a b) : Ext a b := by
  obtain ⟨q, os, rfl⟩ := h
  exact ⟨rfl, rfl, rfl, by simp [Go.Sort.grow, World.drewN], fun k hk => Go.Sort.heap_grow_old (a.drewN q) os hk⟩
theorem gr_pre : PreR Gr := ⟨Gr.refl, Gr.trans, fun w => (Gr.refl w).drew⟩

theorem square_gr (ax ay bx by_ : Int) (w : World) :
    Calls Try.prog 62 #[.agg #[.int .i64 ax, .int .i64 ay], .agg #[.int .i64 bx, .int .i64 by_]] w fun e w' => e = .returned (.int .i64 (sqW ax ay bx by_)) ∧ Gr w w' := by
  go_enter Try.func62, Try.ntmps62
  go_wp2
  go_ret
  exact ⟨rfl, by repeat (first | exact Gr.refl _ | apply Gr.alloc | apply Gr.drew)⟩

set_option maxRecDepth 100000 in
set_option maxHeartbeats 1600000 in
theorem cmp_gr (B : Nat) (ax ay px py qx qy : Int) (w : World) (hB : B < w.heap.size) (h0 : w.cell? ⟨B, 0, none⟩ = some (.int .i64 ax)) (h1 : w.cell? ⟨B, 1, none⟩ = some (.int .i64 ay)) :
    Calls Try.prog 61 #[.agg #[.int .i64 px, .int .i64 py], .agg #[.int .i64 qx, .int .i64 qy], .pointer (some ⟨B, 0, none⟩)] w fun e w' => e = .returned (.int .i64 (IntKind.i64.wrap (sqW ax ay px py - sqW ax ay qx qy))) ∧ Gr w w' := by
  have HB : Hid (∀ w', Ext ((w.alloc (.cells #[.int .i64 px, .int .i64 py] 28)).alloc (.cells #[.int .i64 qx, .int .i64 qy] 28)) w' → w'.cell? ⟨w.heap.size, 0, none⟩ = some (.int .i64 px) ∧ w'.cell? ⟨w.heap.size, 1, none⟩ = some (.int .i64 py) ∧ w.heap.size < w'.heap.size ∧ w'.cell? ⟨w.heap.size + 1, 0, none⟩ = some (.int .i64 qx) ∧ w'.cell? ⟨w.heap.size + 1, 1, none⟩ = some (.int .i64 qy) ∧ w.heap.size + 1 < w'.heap.size) := fun w' hx => by
    and_intros <;> (first | (have hz := hx.size; simp at hz; omega) | ((first | rw [hx.cells _ _ (by first | (simp; done) | (simp; omega))] | rw [hx.frozens _ _ (by first | (simp; done) | (simp; omega))]); (first | (simp [go_sem]; done) | (simp [go_sem, World.cell?_alloc_past]; done) | (simp [go_sem, World.frozen?]; done))))
  have HA : Hid (∀ w', Ext w w' → w'.cell? ⟨B, 0, none⟩ = some (.int .i64 ax) ∧ w'.cell? ⟨B, 1, none⟩ = some (.int .i64 ay)) := fun w' hx => ⟨(hx.cells _ _ hB).trans h0, (hx.cells _ _ hB).trans h1⟩
  go_enter Try.func61, Try.ntmps61
  go_wp2
  refine wp_flowT gr_pre (by kernel_rfl) (by kernel_rfl) (fun u => ⟨#[_, _, _, _, _, u 7, u 0, u 1, u 2, u 3, u 4, u 5, u 6], _⟩) (fun i => List.getD [_, _, _, _, _, _, _, _] i undef) [is ?v1_0, is ?v1_1, is ?v1_2, is ?v1_3, is ?v1_4, is ?v1_5, is ?v1_6, is ?v1_7] (fun w' => w'.cell? ⟨w.heap.size, 0, none⟩ = some (.int .i64 px) ∧ w'.cell? ⟨w.heap.size, 1, none⟩ = some (.int .i64 py) ∧ w.heap.size < w'.heap.size ∧ w'.cell? ⟨w.heap.size + 1, 0, none⟩ = some (.int .i64 qx) ∧ w'.cell? ⟨w.heap.size + 1, 1, none⟩ = some (.int .i64 qy) ∧ w.heap.size + 1 < w'.heap.size ∧ (w'.cell? ⟨B, 0, none⟩ = some (.int .i64 ax) ∧ w'.cell? ⟨B, 1, none⟩ = some (.int .i64 ay))) _ rfl ?hC1 ?hs1 ?hV1 ?fin1
  case hC1 => exact fun w' hx => (by have a := HB.out w' hx.ext; have b := HA.out w' (Ext.trans (by (repeat (first | exact Ext.refl _ | assumption | apply Ext.alloc | apply Ext.drew | apply Ext.drewN | (refine Ext.trans ?_ (by assumption))))) hx.ext); and_intros <;> (first | exact a.1.1 | exact a.1.2.1 | exact a.1.2.2 | exact a.2.1 | exact a.2.2.1 | exact a.2.2.2 | exact a.1 | exact a.2.1 | exact a.2.2.1 | exact a.2.2.2.1 | exact a.2.2.2.2.1 | exact a.2.2.2.2.2 | exact b.1 | exact b.2))
  case hs1 =>
    repeat' (first
      | exact TSteps.nil
      | refine TSteps.cons ?_ ?_
      | ((first
          | refine TStep.plain rfl ?_)
         intro u w hW hC hd K hK
         (try simp [vOf, is, Region.binds] at hd)
         simp only [upd, Nat.reduceEqDiff, if_true, if_false] at hK
         (try simp only [hd] at hK)
         go_simp
         (first
           | (refine hK _ _ ?_ ?_; (first | exact rfl); (repeat (first | exact Gr.refl _ | assumption | apply Gr.alloc | apply Gr.drew | (refine Gr.trans ?_ (by assumption)))))
           | (go_at_call 62; refine (square_gr _ _ _ _ _).mono ?_; rintro e w1 ⟨rfl, hb⟩; (try go_simp); refine hK _ _ ?_ ?_; (first | exact rfl); (repeat (first | exact Gr.refl _ | assumption | apply Gr.alloc | apply Gr.drew | (refine Gr.trans ?_ (by assumption))))))))
  case hV1 => (simp only [List.forall_mem_cons]; simp [stableT_is])
  case fin1 =>
    intro u w2 hW2 hC2 hd
    simp only [AllV, is] at hd
    simp only [hd]
    clear hd
    go_wp2
    go_ret
    exact ⟨rfl, by repeat (first | exact Gr.refl _ | assumption | apply Gr.alloc | apply Gr.drew | (refine Gr.trans ?_ (by assumption)))⟩

/-- a point within the bounds -/
def PokP : Type := {p : Int × Int // pok p.1 p.2 = true}
instance pokPInh : Inhabited PokP := ⟨⟨(0, 0), by decide⟩⟩
def encP (x : PokP) : List Value := [.int .i64 x.1.1, .int .i64 x.1.2]
def cfP (a : Int × Int) (x y : PokP) : Int := kk a x.1 - kk a y.1

theorem kk_bd {a x : Int × Int} (ha : pok a.1 a.2 = true) (hx : pok x.1 x.2 = true) : 0 ≤ kk a x ∧ kk a x ≤ 12800 := by
  have w1 := within_of_pok ha
  have w2 := within_of_pok hx
  unfold within at w1 w2
  unfold kk sqZ
  have m1 := mul_bd (a.1 - x.1) (a.1 - x.1) 80 80 (by omega) (by omega) (by omega) (by omega)
  have m2 := mul_bd (a.2 - x.2) (a.2 - x.2) 80 80 (by omega) (by omega) (by omega) (by omega)
  have n1 := sq_nn (a.1 - x.1)
  have n2 := sq_nn (a.2 - x.2)
  omega

theorem cmp_lays (B : Nat) (ax ay : Int) (blk size : Nat) (w : World) (ha : pok ax ay = true) (hB : B < w.heap.size) (hne : B ≠ blk) (h0 : w.cell? ⟨B, 0, none⟩ = some (.int .i64 ax)) (h1 : w.cell? ⟨B, 1, none⟩ = some (.int .i64 ay)) :
    CmpLays Try.prog 61 #[.pointer (some ⟨B, 0, none⟩)] encP 2 (cfP (ax, ay)) blk 0 size w := by
  intro m os dk _ x y
  have hsz := Go.Proofs.size_sortWorldK_c encP 2 w blk 0 m dk os
  have hc : ∀ o, (Go.Proofs.sortWorldK encP 2 w blk 0 m dk os).cell? ⟨B, o, none⟩ = w.cell? ⟨B, o, none⟩ := fun o => by
    unfold Go.Proofs.sortWorldK
    rw [Go.Sort.cell?_grow _ _ _ (by rw [Go.Sort.size_putRowK]; exact hB), Go.Sort.cell?_putRowK_other _ _ _ _ _ _ _ hne]
    rfl
  refine (cmp_gr B ax ay x.1.1 x.1.2 y.1.1 y.1.2 _ (Nat.lt_of_lt_of_le hB hsz) ((hc 0).trans h0) ((hc 1).trans h1)).mono ?_
  rintro e w' ⟨rfl, q, os', rfl⟩
  refine ⟨?_, q, os', rfl⟩
  have b1 := kk_bd (a := (ax, ay)) ha x.2
  have b2 := kk_bd (a := (ax, ay)) ha y.2
  have wa := within_more (within_of_pok ha) (N := 1000000) (by omega)
  have wx := within_more (within_of_pok x.2) (N := 1000000) (by omega)
  have wy := within_more (within_of_pok y.2) (N := 1000000) (by omega)
  refine congrArg (fun z => Ending.returned (Value.int .i64 z)) ?_
  rw [sqW_eq wa wx, sqW_eq wa wy]
  show IntKind.i64.wrap (kk (ax, ay) x.1 - kk (ax, ay) y.1) = kk (ax, ay) x.1 - kk (ax, ay) y.1
  exact wrap_in _ (by omega) (by omega)

theorem cf_swo (a : Int × Int) : Go.Sort.SWO (ltOf (cfP a)) :=
  ⟨fun x => by unfold ltOf cfP; simp,
    fun x y z h1 h2 => by unfold ltOf cfP at *; simp at *; omega,
    fun x y z h1 h2 => by unfold ltOf cfP at *; simp at *; omega⟩

/-- the points of a list, as the sort takes them -/
def mkP (p : Int × Int) (h : pok p.1 p.2 = true) : PokP := ⟨p, h⟩
theorem mkP_val (p : Int × Int) (h : pok p.1 p.2 = true) : (mkP p h).1 = p := rfl
def arrP (l : List (Int × Int)) (h : ∀ p ∈ l, pok p.1 p.2 = true) : Array PokP := (l.pmap mkP h).toArray
theorem arrP_size (l : List (Int × Int)) (h : ∀ p ∈ l, pok p.1 p.2 = true) : (arrP l h).size = l.length := by simp [arrP]
theorem arrP_get {l : List (Int × Int)} {h : ∀ p ∈ l, pok p.1 p.2 = true} {k : Nat} (hk : k < l.length) : ((arrP l h)[k]!).1 = (gx l k, gy l k) := by
  rw [getElem!_pos (arrP l h) k (by rw [arrP_size]; exact hk)]
  unfold arrP gx gy
  rw [List.getD_eq_getElem?_getD, List.getElem?_eq_getElem hk]
  simp [mkP_val]
theorem arrP_list (l : List (Int × Int)) (h : ∀ p ∈ l, pok p.1 p.2 = true) : (arrP l h).toList.map (fun x : PokP => x.1) = l := by
  unfold arrP
  simp [List.map_pmap, mkP_val]

theorem holdsK_own {w : World} {g : Nat} {T : TypeId} {l : List (Int × Int)} (h : ∀ p ∈ l, pok p.1 p.2 = true) (ho : OwnP w g T l) : Go.Sort.HoldsK encP 2 w g 0 (arrP l h) := by
  intro j hj
  rw [Go.Sort.size_flatK, arrP_size] at hj
  have hk : j / 2 < l.length := by omega
  refine ⟨?_, ho.frozen _⟩
  rw [Go.Sort.get_flatK _ _ _ _ (by rw [arrP_size]; exact hj), Nat.zero_add]
  have hd := arrP_get (h := h) hk
  unfold encP
  rw [hd]
  rcases Nat.mod_two_eq_zero_or_one j with e | e
  · rw [e]
    have := ho.cellx hk
    rw [show j / 2 * 2 = j by omega] at this
    exact this
  · rw [e]
    have := ho.celly hk
    rw [show j / 2 * 2 + 1 = j by omega] at this
    exact this

theorem ext_sortWorld {w0 w : World} {g : Nat} (hx : Ext w0 w) (hg : w0.heap.size ≤ g) (n : Nat) (d : Array PokP) (os : Array Obj) : Ext w0 (Go.Proofs.sortWorldK encP 2 w g 0 n d os) := by
  have hsz := Go.Proofs.size_sortWorldK_c encP 2 w g 0 n d os
  have hw := hx.size
  refine ⟨show w.os = w0.os from Below.os hx.below, show w.tape = w0.tape from Below.tape hx.below, show w.output = w0.output from Below.output hx.below, by omega, fun k hk => ?_⟩
  unfold Go.Proofs.sortWorldK
  rw [Go.Sort.heap_grow_old _ _ (by rw [Go.Sort.size_putRowK]; show k < w.heap.size; omega)]
  show (w.heap.modify g _)[k]? = _
  rw [Array.getElem?_modify, if_neg (by omega)]
  exact hx.below.block k hk

theorem extract_all {α : Type} (d : Array α) {n : Nat} (h : n = d.size) : (d.extract 0 n).toList = d.toList := by
  subst h
  simp

set_option maxHeartbeats 1000000 in
theorem sort_any (B : Nat) (ax ay : Int) (g : Nat) (T : TypeId) (l : List (Int × Int)) (c : Nat) (w0 w : World) (hx : Ext w0 w) (hg : w0.heap.size ≤ g) (ho : OwnP w g T l) (hall : ∀ p ∈ l, pok p.1 p.2 = true) (ha : pok ax ay = true)
    (hB : B < w.heap.size) (hne : B ≠ g) (h0 : w.cell? ⟨B, 0, none⟩ = some (.int .i64 ax)) (h1 : w.cell? ⟨B, 1, none⟩ = some (.int .i64 ay)) (hl : l.length ≤ 1000) :
    Calls Try.prog 60 #[.slice (some ⟨g, 0, none⟩) l.length c, .func (.func 61) #[] #[.pointer (some ⟨B, 0, none⟩)]] w fun e w' => e = .returned (.tuple #[]) ∧ ∃ s : List (Int × Int), s.Perm l ∧ SortedK (kk (ax, ay)) (0, 0) s ∧ RPts w' (some ⟨g, 0, none⟩) s ∧ Ext w0 w' := by
  have eg : ∀ args w, (callFunc 61 args).run Try.prog w = .ok (.enter 61 args) w := Go.Proofs.enters_of Try.func61 (by kernel_rfl) rfl
  have hd := arrP_size l hall
  have hcon := AnyQ.slices_SortFunc Try.sortP 2 Try.isAgg28 Try.sizeOf28 encP (fun _ => rfl) (fun x v hv => by simp [encP] at hv; rcases hv with rfl | rfl <;> rfl) (cfP (ax, ay)) (cf_swo (ax, ay)) 61 #[.pointer (some ⟨B, 0, none⟩)] g 0 c (arrP l hall) w eg
    (cmp_lays B ax ay g _ w ha hB hne h0 h1) (holdsK_own hall ho) ho.lt (by omega)
  change Calls Try.prog 60 _ _ _ at hcon
  rw [hd] at hcon
  refine hcon.mono ?_
  rintro e w' ⟨he, d', n, os, ⟨hs, _, hp⟩, hst, rfl⟩
  refine ⟨he, d'.toList.map (fun x : PokP => x.1), ?_, ?_, ?_, ext_sortWorld hx hg _ _ _⟩
  · rw [extract_all _ (by omega), extract_all _ (by omega)] at hp
    have := hp.map (fun x : PokP => x.1)
    rwa [arrP_list] at this
  · intro i j hij hj
    have hj' : j < d'.size := by simpa using hj
    have h2 := hst i j (Nat.zero_le _) hij (by omega)
    have gi : ∀ k, k < d'.size → (d'.toList.map (fun x : PokP => x.1)).getD k (0, 0) = (d'[k]!).1 := fun k hk => by
      rw [List.getD_eq_getElem?_getD, List.getElem?_map, getElem!_pos d' k hk]
      simp [hk]
    rw [gi i (by omega), gi j hj']
    unfold ltOf cfP at h2
    simp at h2
    omega
  · have hH := Go.Proofs.holdsK_sortWorldK_c encP 2 w g 0 (arrP l hall) d' n os (holdsK_own hall ho) ho.lt hs
    have hsz := Go.Proofs.size_sortWorldK_c encP 2 w g 0 n d' os
    intro _
    refine ⟨g, 0, rfl, Nat.zero_le _, Nat.lt_of_lt_of_le ho.lt hsz, fun k hk => ?_⟩
    have hk' : k < d'.size := by simpa using hk
    have c0 := (hH.cell (i := k) (c := 0) hk' (by omega)).1
    have c1 := (hH.cell (i := k) (c := 1) hk' (by omega)).1
    have gk : (d'.toList.map (fun x : PokP => x.1)).getD k (0, 0) = (d'[k]!).1 := by
      rw [List.getD_eq_getElem?_getD, List.getElem?_map, getElem!_pos d' k hk']
      simp [hk']
    unfold gx gy
    rw [gk]
    exact ⟨c0, c1⟩

end Go.Proofs.Ytjccilpjaaiicaa
