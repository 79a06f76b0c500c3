/-
  Contracts: RoomText of the program and of the reference.
-/
import Derived.Test.YtkdhgngpapfkdaaDoorPText
import Derived.Test.YtkdhgngpapfkdaaDoorSRoomOk
import Derived.Test.YtkdhgngpapfkdaaDoorCor
import Derived.Test.YtkdhgngpapfkdaaDoorStr
import Derived.Test.YtkdhgngpapfkdaaDoorSplit
import Derived.Lib.Join
namespace Go.Proofs.YtkdhgngpapfkdaaDoor
open Go.RowKit
open Go.Lib (itoa)

/-- the texts of the first k corners -/
def ptL (l : List (Int × Int)) (k : Nat) : List ByteArray := (List.range k).map fun j => ptB (gx l j) (gy l j)
theorem ptL_succ (l : List (Int × Int)) (k : Nat) : ptL l (k + 1) = ptL l k ++ [ptB (gx l k) (gy l k)] := by
  unfold ptL
  rw [List.range_succ, List.map_append]
  rfl
theorem ptL_length (l : List (Int × Int)) (k : Nat) : (ptL l k).length = k := by simp [ptL]
/-- the first k corners' texts, with spaces between -/
def txtK (l : List (Int × Int)) : Nat → ByteArray
  | 0 => ⟨#[]⟩
  | k + 1 => (if 0 < k then txtK l k ++ ⟨#[32]⟩ else txtK l k) ++ ptB (gx l k) (gy l k)
theorem join_snoc (a : List UInt8) (r : List (List UInt8)) (x sep : List UInt8) : Lib.join (a :: (r ++ [x])) sep = Lib.join (a :: r) sep ++ (sep ++ x) := by
  rw [Lib.join_cons, Lib.join_cons, List.append_assoc]
  congr 1
  induction r with
  | nil => simp [Lib.joinTail]
  | cons y r ih => simp [Lib.joinTail] at ih ⊢
theorem byl_cat (a b : ByteArray) : byl (a ++ b) = byl a ++ byl b := by simp [byl]
theorem txtK_join (l : List (Int × Int)) : ∀ k, byl (txtK l k) = Lib.join ((ptL l k).map byl) [32]
  | 0 => by simp [txtK, ptL, byl, Lib.join_nil]
  | 1 => by
    rw [ptL_succ]
    simp only [txtK, Nat.lt_irrefl, if_false, byl_cat]
    simp [ptL, byl, Lib.join_one]
  | k + 2 => by
    have ih := txtK_join l (k + 1)
    have e : txtK l (k + 2) = (txtK l (k + 1) ++ ⟨#[32]⟩) ++ ptB (gx l (k + 1)) (gy l (k + 1)) := by
      conv => lhs; unfold txtK
      rw [if_pos (by omega)]
    rw [e, byl_cat, byl_cat, ih, show ptL l (k + 2) = ptL l (k + 1) ++ [ptB (gx l (k + 1)) (gy l (k + 1))] from ptL_succ l (k + 1), List.map_append]
    have h1 : (ptL l (k + 1)).map byl ≠ [] := fun h => by have := congrArg List.length h; simp [ptL_length] at this
    obtain ⟨a, r, hr⟩ := List.exists_cons_of_ne_nil h1
    rw [hr]
    show _ = Lib.join (a :: (r ++ [byl (ptB (gx l (k + 1)) (gy l (k + 1)))])) [32]
    rw [join_snoc, List.append_assoc]
    rfl
/-- RoomText, as both texts give it -/
def rtxtV (l : List (Int × Int)) : ByteArray := if roomB l = true then txtK l l.length else ⟨#[]⟩

theorem ptB_size {x y : Int} (h : pok x y = true) : (ptB x y).size ≤ 43 := by
  have h1 := within_of_pok h
  unfold within at h1
  have a := Lib.itoa_length_le x (by omega) (by omega)
  have b := Lib.itoa_length_le y (by omega) (by omega)
  have e1 : (⟨(itoa x).toArray⟩ : ByteArray).size = (itoa x).length := by show (itoa x).toArray.size = _; simp
  have e3 : (⟨(itoa y).toArray⟩ : ByteArray).size = (itoa y).length := by show (itoa y).toArray.size = _; simp
  have e2 : (⟨#[44]⟩ : ByteArray).size = 1 := rfl
  unfold ptB
  rw [ByteArray.size_append', ByteArray.size_append', e1, e2, e3]
  omega
theorem txtK_size {l : List (Int × Int)} (hf : Fine l) : ∀ k, k ≤ l.length → (txtK l k).size ≤ k * 44
  | 0, _ => by show (ByteArray.size ⟨#[]⟩) ≤ 0; decide
  | k + 1, h => by
    have ih := txtK_size hf k (by omega)
    have h2 := ptB_size (hf.pok (show k < l.length by omega))
    unfold txtK
    rw [ByteArray.size_append']
    split
    · rw [ByteArray.size_append']
      have e : (ByteArray.size ⟨#[32]⟩) = 1 := rfl
      omega
    · omega

theorem sPointText_ok (x y : Int) (w : World) (h : pok x y = true) : Calls Tryd.prog 12 #[.agg #[.int .i64 x, .int .i64 y]] w fun e w' => e = .returned (.string (ptB x y)) ∧ Ext w w' := by
  have h1 := within_of_pok h
  unfold within at h1
  have := sPointText_any x y w (by omega) (by omega)
  rwa [if_pos h] at this
theorem PointText_ok (x y : Int) (w : World) (h : pok x y = true) (htab : Lib.TabIs Tryd.prog w "internal/strconv.uint64pow10" .u64 Lib.pow10Tab) : Calls Tryd.prog 14 #[.agg #[.int .i64 x, .int .i64 y]] w fun e w' => e = .returned (.string (ptB x y)) ∧ Ext w w' := by
  have h1 := within_of_pok h
  unfold within at h1
  have := PointText_any x y w (by omega) (by omega) htab
  rwa [if_pos h] at this

set_option maxRecDepth 100000 in
set_option maxHeartbeats 1600000 in
theorem sRoomText_any (A : Option Addr) (l : List (Int × Int)) (c : Nat) (w : World) (hp : RPts w A l) (hn : l.length ≤ 1048576) :
    Calls Tryd.prog 26 #[.agg #[.slice A l.length c]] w fun e w' => e = .returned (.string (rtxtV l)) ∧ Ext w w' := by
  have HB : Hid (∀ w', Ext (w.alloc (.cells #[.slice A l.length c] 49)) w' → w'.cell? ⟨w.heap.size, 0, none⟩ = some (.slice A l.length c) ∧ w.heap.size < w'.heap.size) := fun w' hx => by
    and_intros <;> (first | (have hz := hx.size; simp at hz; omega) | ((first | rw [hx.cells _ _ (by first | (simp; done) | (simp; omega))] | rw [hx.frozens _ _ (by first | (simp; done) | (simp; omega))]); (first | (simp [go_sem]; done) | (simp [go_sem, World.cell?_alloc_past]; done) | (simp [go_sem, World.frozen?]; done))))
  cases hr : roomB l
  · have HV := hide (show rtxtV l = ⟨#[]⟩ by unfold rtxtV; rw [hr]; rfl)
    go_enter Tryd.func26, Tryd.ntmps26
    go_wp2
    go_loopw [3, 4] (fun s k wr => s = .string ⟨#[]⟩ ∧ k = .int .i64 0 ∧ Ext (w.alloc (.cells #[.slice A l.length c] 49)) wr) (fun _ _ _ => 0)
    case atStart => exact ⟨rfl, rfl, by (repeat (first | exact Ext.refl _ | assumption | apply Ext.alloc | apply Ext.drew | apply Ext.drewN | (refine Ext.trans ?_ (by assumption))))⟩
    case round =>
      obtain ⟨rfl, rfl, hbl⟩ := hrel
      obtain ⟨wq, rfl⟩ : ∃ wq : World, wq = wr := ⟨_, rfl⟩
      have fb := HB.out wq hbl
      by_cases h0 : 0 < l.length
      · go_wp2_with (go_at_call 50; refine (sRoomOk_any _ _ _ _ (hp.ext (by (repeat (first | exact Ext.refl _ | assumption | apply Ext.alloc | apply Ext.drew | apply Ext.drewN | (refine Ext.trans ?_ (by assumption)))))) hn).mono ?_; rw [hr]; rintro e w1 ⟨rfl, hb1⟩)
        go_ret
        exact ⟨by rw [HV.out]; rfl, by (repeat (first | exact Ext.refl _ | assumption | apply Ext.alloc | apply Ext.drew | apply Ext.drewN | (refine Ext.trans ?_ (by assumption))))⟩
      · go_wp2
        go_ret
        exact ⟨by rw [HV.out]; rfl, by (repeat (first | exact Ext.refl _ | assumption | apply Ext.alloc | apply Ext.drew | apply Ext.drewN | (refine Ext.trans ?_ (by assumption))))⟩
  · have HV := hide (show rtxtV l = txtK l l.length by unfold rtxtV; rw [if_pos hr])
    obtain ⟨hf, h3⟩ := roomB_fine hr
    have HF := hide hf
    have h10 := hf.2
    obtain ⟨b, off, rfl⟩ := hp.some_ (by omega)
    clear hf HB
    have HC : Hid (∀ w', Ext (w.alloc (.cells #[.slice (some ⟨b, off, none⟩) l.length c] 49)) w' → w'.cell? ⟨w.heap.size, 0, none⟩ = some (.slice (some ⟨b, off, none⟩) l.length c) ∧ w.heap.size < w'.heap.size) := fun w' hx => by
      and_intros <;> (first | (have hz := hx.size; simp at hz; omega) | ((first | rw [hx.cells _ _ (by first | (simp; done) | (simp; omega))] | rw [hx.frozens _ _ (by first | (simp; done) | (simp; omega))]); (first | (simp [go_sem]; done) | (simp [go_sem, World.cell?_alloc_past]; done) | (simp [go_sem, World.frozen?]; done))))
    go_enter Tryd.func26, Tryd.ntmps26
    go_wp2
    go_loopw [3, 4] (fun s i wr => ∃ k : Nat, k ≤ l.length ∧ s = .string (txtK l k) ∧ i = .int .i64 k ∧ Ext (w.alloc (.cells #[.slice (some ⟨b, off, none⟩) l.length c] 49)) wr) (fun _ i _ => l.length - (intOf i).toNat)
    case atStart => exact ⟨0, Nat.zero_le _, rfl, rfl, by (repeat (first | exact Ext.refl _ | assumption | apply Ext.alloc | apply Ext.drew | apply Ext.drewN | (refine Ext.trans ?_ (by assumption))))⟩
    case round =>
      obtain ⟨k, hk, rfl, rfl, hbl⟩ := hrel
      obtain ⟨wq, rfl⟩ : ∃ wq : World, wq = wr := ⟨_, rfl⟩
      have fb := HC.out wq hbl
      by_cases hlt : k < l.length
      · have q2 : (k : Int) < (l.length : Int) := by omega
        have q1 : (0 : Int) ≤ (k : Int) := by omega
        have hpk := HF.out.pok hlt
        have hsz := ptB_size hpk
        have hs0 := txtK_size HF.out k hk
        obtain ⟨t, ht⟩ : ∃ t, t = txtK l k := ⟨_, rfl⟩
        have HT := hide (show txtK l (k + 1) = (if 0 < k then t ++ ⟨#[32]⟩ else t) ++ ptB (gx l k) (gy l k) by rw [ht]; rfl)
        rw [← ht] at hs0 ⊢
        have z1 : t.size ≤ 500 := by omega
        have z2 : (t.size : Int) ≤ 500 := by omega
        have z3 : ((ptB (gx l k) (gy l k)).size : Int) ≤ 43 := by omega
        have HPK := hide hpk
        clear ht hs0 hpk
        by_cases hk0 : 0 < k
        · have q3 : (0 : Int) < (k : Int) := by omega
          go_wp2_with (first | (go_at_call 50; refine (sRoomOk_any _ _ _ _ (hp.ext (by (repeat (first | exact Ext.refl _ | assumption | apply Ext.alloc | apply Ext.drew | apply Ext.drewN | (refine Ext.trans ?_ (by assumption)))))) hn).mono ?_; rw [hr]; rintro e w1 ⟨rfl, hb1⟩; have f1 := HC.out w1 (by (repeat (first | exact Ext.refl _ | assumption | apply Ext.alloc | apply Ext.drew | apply Ext.drewN | (refine Ext.trans ?_ (by assumption))))); obtain ⟨hz, hx, hy⟩ := (hp.ext (show Ext w w1 by (repeat (first | exact Ext.refl _ | assumption | apply Ext.alloc | apply Ext.drew | apply Ext.drewN | (refine Ext.trans ?_ (by assumption)))))).cell hlt) | (go_at_call 12; refine (sPointText_ok _ _ _ HPK.out).mono ?_; rintro e w2 ⟨rfl, hb2⟩))
          go_roundw
          case rel => exact ⟨k + 1, by omega, by rw [HT.out, if_pos hk0], by go_num, by (repeat (first | exact Ext.refl _ | assumption | apply Ext.alloc | apply Ext.drew | apply Ext.drewN | (refine Ext.trans ?_ (by assumption))))⟩
          case measure => simp [intOf]; omega
        · have q3 : ¬ (0 : Int) < (k : Int) := by omega
          go_wp2_with (first | (go_at_call 50; refine (sRoomOk_any _ _ _ _ (hp.ext (by (repeat (first | exact Ext.refl _ | assumption | apply Ext.alloc | apply Ext.drew | apply Ext.drewN | (refine Ext.trans ?_ (by assumption)))))) hn).mono ?_; rw [hr]; rintro e w1 ⟨rfl, hb1⟩; have f1 := HC.out w1 (by (repeat (first | exact Ext.refl _ | assumption | apply Ext.alloc | apply Ext.drew | apply Ext.drewN | (refine Ext.trans ?_ (by assumption))))); obtain ⟨hz, hx, hy⟩ := (hp.ext (show Ext w w1 by (repeat (first | exact Ext.refl _ | assumption | apply Ext.alloc | apply Ext.drew | apply Ext.drewN | (refine Ext.trans ?_ (by assumption)))))).cell hlt) | (go_at_call 12; refine (sPointText_ok _ _ _ HPK.out).mono ?_; rintro e w2 ⟨rfl, hb2⟩))
          go_roundw
          case rel => exact ⟨k + 1, by omega, by rw [HT.out, if_neg hk0], by go_num, by (repeat (first | exact Ext.refl _ | assumption | apply Ext.alloc | apply Ext.drew | apply Ext.drewN | (refine Ext.trans ?_ (by assumption))))⟩
          case measure => simp [intOf]; omega
      · have e : k = l.length := by omega
        have E := hide e
        have q2 : ¬ (k : Int) < (l.length : Int) := by omega
        clear e
        go_wp2
        go_ret
        exact ⟨by rw [HV.out, ← E.out]; rfl, by (repeat (first | exact Ext.refl _ | assumption | apply Ext.alloc | apply Ext.drew | apply Ext.drewN | (refine Ext.trans ?_ (by assumption))))⟩

end Go.Proofs.YtkdhgngpapfkdaaDoor
