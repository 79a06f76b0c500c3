/- The walk of FnCorners. -/
import Derived.Test.YtanagdlikoinaaaCornD
import Derived.Test.YtanagdlikoinaaaDrawS
import Derived.Test.YtanagdlikoinaaaConv
import Derived.Test.YtanagdlikoinaaaFastF
namespace Go.Proofs.Ytanagdlikoinaaa
open Go.RowKit

theorem TurnSum_at (A : Option Addr) (l : List (Int × Int)) (c N : Nat) (v : Int) (w : World) (hN : l.length = N) (hp : RPts w A l) (hn : N ≤ 1048576) (hv : turnSumV l = v) :
    Calls Try.prog 12 #[.agg #[.slice A N c]] w fun e w' => e = .returned (.int .i64 v) ∧ Ext w w' := by
  subst hN hv
  exact TurnSum_any A l c w hp hn
theorem IsReflex_at (A : Option Addr) (l : List (Int × Int)) (c N k : Nat) (v : Bool) (w : World) (hN : l.length = N) (hp : RPts w A l) (hn : N ≤ 1048576) (hv : isReflV l k = v) :
    Calls Try.prog 11 #[.agg #[.slice A N c], .int .i64 k] w fun e w' => e = .returned (.bool v) ∧ Ext w w' := by
  subst hN hv
  exact IsReflex_any A l c k w hp hn
theorem IsConvex_at (A : Option Addr) (l : List (Int × Int)) (c N : Nat) (v : Bool) (w : World) (hN : l.length = N) (hp : RPts w A l) (hn : N ≤ 1048576) (hv : convV l = v) :
    Calls Try.prog 13 #[.agg #[.slice A N c]] w fun e w' => e = .returned (.bool v) ∧ Ext w w' := by
  subst hN hv
  exact IsConvex_any A l c w hp hn
theorem IsRectangular_at (A : Option Addr) (l : List (Int × Int)) (c N : Nat) (v : Bool) (w : World) (hN : l.length = N) (hp : RPts w A l) (hn : N ≤ 1048576) (hv : isRectV l = v) :
    Calls Try.prog 14 #[.agg #[.slice A N c]] w fun e w' => e = .returned (.bool v) ∧ Ext w w' := by
  subst hN hv
  exact IsRectangular_any A l c w hp hn
theorem ReflexCorners_at (A : Option Addr) (l : List (Int × Int)) (c N : Nat) (w : World) (hN : l.length = N) (hp : RPts w A l) (hn : N ≤ 1048576) :
    Calls Try.prog 8 #[.agg #[.slice A N c]] w (RetI 3 (reflV l) w) := by
  subst hN
  exact ReflexCorners_any A l c w hp hn
theorem LowestCorner_at (A : Option Addr) (l : List (Int × Int)) (c N : Nat) (v : Int) (w : World) (hN : l.length = N) (hp : RPts w A l) (hn : N ≤ 1048576) (hv : lowV l = v) :
    Calls Try.prog 9 #[.agg #[.slice A N c]] w fun e w' => e = .returned (.int .i64 v) ∧ Ext w w' := by
  subst hN hv
  exact LowestCorner_any A l c w hp hn

theorem any_at {l : List Int} {k : Int} {i : Nat} (hi : i < l.length) (h : (gi l i == k) = true) : l.any (fun x => x == k) = true := by
  rw [List.any_eq_true]
  refine ⟨l[i], List.getElem_mem hi, ?_⟩
  unfold gi at h
  rw [List.getD_eq_getElem?_getD, List.getElem?_eq_getElem hi] at h
  exact h
theorem any_no {l : List Int} {k : Int} (h : ∀ i, i < l.length → (gi l i == k) = false) : l.any (fun x => x == k) = false := by
  rw [List.any_eq_false]
  intro x hx
  obtain ⟨i, hi, rfl⟩ := List.getElem_of_mem hx
  have := h i hi
  unfold gi at this
  rw [List.getD_eq_getElem?_getD, List.getElem?_eq_getElem hi] at this
  simpa using this
set_option maxRecDepth 100000 in
theorem has_any (A : Option Addr) (l : List Int) (c : Nat) (k : Int) (w : World) (h : RInts w A l) (hn : l.length ≤ 1048576) :
    Calls Try.prog 10 #[.slice A l.length c, .int .i64 k] w fun e w' => e = .returned (.bool (l.any (fun x => x == k))) ∧ w = w' := by
  go_enter Try.func10, Try.ntmps10
  go_wp2
  go_loopw [5] (fun i wr => ∃ m : Nat, m ≤ l.length ∧ i = .int .i64 m ∧ w = wr ∧ ∀ j, j < m → (gi l j == k) = false) (fun i _ => l.length - (intOf i).toNat)
  case atStart => exact ⟨0, Nat.zero_le _, rfl, rfl, fun j hj => absurd hj (by omega)⟩
  case round =>
    obtain ⟨m, hm, rfl, rfl, hno⟩ := hrel
    by_cases hlt : m < l.length
    · obtain ⟨b, off, rfl, _, hx⟩ := h.at_ hlt
      have HNO := hide hno
      clear hno
      cases hk : (gi l m == k)
      · go_wp2
        go_roundw
        case rel => exact ⟨m + 1, by omega, by go_num, by first | rfl | trivial, fun j hj => by
          by_cases e : j = m
          · subst e; exact hk
          · exact HNO.out j (by omega)⟩
        case measure => simp [intOf]; omega
      · go_wp2
        go_ret
        exact ⟨ret_bool (any_at hlt hk).symm, by first | rfl | trivial⟩
    · have e : m = l.length := by omega
      have E := hide (any_no (l := l) (k := k) (fun i hi => hno i (by omega)))
      clear hno e
      go_wp2
      go_ret
      exact ⟨ret_bool E.out.symm, by first | rfl | trivial⟩

theorem has_at (A : Option Addr) (l : List Int) (c N : Nat) (k : Int) (v : Bool) (w : World) (hN : l.length = N) (h : RInts w A l) (hn : N ≤ 1048576) (hv : l.any (fun x => x == k) = v) :
    Calls Try.prog 10 #[.slice A N c, .int .i64 k] w fun e w' => e = .returned (.bool v) ∧ w = w' := by
  subst hN hv
  exact has_any A l c k w h hn

theorem reflL_has (L : List (Int × Int)) {k : Nat} (hk : k < L.length) : (reflL L L.length).any (fun x => x == (k : Int)) = reflB L k := by
  unfold reflL
  rw [List.any_map, Bool.eq_iff_iff, List.any_eq_true]
  constructor
  · rintro ⟨i, hi, he⟩
    have e : (i : Int) = (k : Int) := by simpa using he
    have e : i = k := by omega
    subst e
    exact (List.mem_filter.1 hi).2
  · intro h
    exact ⟨k, List.mem_filter.2 ⟨List.mem_range.2 hk, h⟩, by simp⟩


set_option maxRecDepth 100000 in
set_option maxHeartbeats 6400000 in
theorem corners_walk (B : Option Addr) (n c : Nat) (w : World) (hb : RB w B n) :
    Calls Try.prog 3 #[.slice B n c] w fun e w' => e = .returned (.bool true) ∧ Below w.heap.size w w' := by
  by_cases hbig : (1048576 : Int) < (n : Int)
  · go_enter Try.func3, Try.ntmps3
    go_wp2_with (go_at_call 6; refine (big_any _ _ _ _).mono ?_; rintro e w1 ⟨rfl, rfl⟩)
    go_ret
    exact ⟨rfl, Below.refl _ _⟩
  · have hn : n ≤ 1048576 := by omega
    go_enter Try.func3, Try.ntmps3
    go_wp2_with (go_at_call 6; refine (big_any _ _ _ _).mono ?_; rintro e w1 ⟨rfl, rfl⟩)
    refine (DrawRoom_any B n c w hb hn).mono ?_
    rintro e w1 ⟨L, A, c1, rfl, hcap, hD, own, x1⟩
    obtain ⟨hr, p1, p2, p3⟩ := corners_plain hD
    have hN3 : 3 ≤ L.length := (roomB_fine hr).2
    have hN10 : L.length ≤ 10 := (roomB_fine hr).1.2
    have r1 : RPts w1 A L := own.r (Nat.le_refl _)
    have hlw : lowTo L L.length < L.length := lowTo_lt _ _ (by omega)
    obtain ⟨lw, hlw2⟩ : ∃ lw, lowTo L L.length = lw := ⟨_, rfl⟩
    rw [hlw2] at p2 hlw
    have hRV : reflV L = reflL L L.length := by unfold reflV; rw [if_pos hr]
    have hLV : lowV L = (lw : Int) := by unfold lowV; rw [if_pos hr, hlw2]
    have hIR : isReflV L (lw : Int) = false := by
      unfold isReflV
      rw [Int.toNat_natCast, p2, Bool.and_false]
    obtain ⟨q, hq⟩ : ∃ q, (reflL L L.length).length = q := ⟨_, rfl⟩
    have hTS : turnSumV L = (L.length : Int) - 2 * (q : Int) := by unfold turnSumV; rw [if_pos hr, hRV, hq]
    have hCV : convV L = ((q : Int) == 0) := by unfold convV; rw [hr, hRV, hq]; rfl
    obtain ⟨rv, hrv⟩ : ∃ rv, isRectV L = rv := ⟨_, rfl⟩
    rw [hrv] at p3
    rw [hq] at p1 p3
    have HRI := hide (fun k (hk : k < L.length) => show isReflV L (k : Int) = reflB L k by
      unfold isReflV hasC inB
      rw [hr, Int.toNat_natCast]
      simp
      omega)
    have HHS := hide (fun k (hk : k < L.length) => reflL_has L hk)
    obtain ⟨N, hN⟩ : ∃ N, L.length = N := ⟨_, rfl⟩
    obtain ⟨V, hV⟩ : ∃ V, reflL L L.length = V := ⟨_, rfl⟩
    have HVV := hide (hRV.trans hV)
    have hVq : V.length = q := by rw [← hV]; exact hq
    rw [hV] at HHS
    rw [hN] at hcap hN3 hN10 hlw p1 p3 hTS HRI HHS ⊢
    have HLN := hide hN
    have HLV := hide hLV
    have HIR := hide hIR
    have HTS := hide hTS
    have HVQ := hide hVq
    have HRV := hide hrv
    have HCV0 := hide hCV
    have hn10 : N ≤ 1048576 := by omega
    clear hN hD hr own hRV hLV hIR hTS hCV hrv hq hV hVq hlw2 p2
    have HB : Hid (∀ w', Ext (w1.alloc (.cells #[.slice A N c1] 26)) w' → w'.cell? ⟨w1.heap.size, 0, none⟩ = some (.slice A N c1) ∧ w1.heap.size < w'.heap.size) := fun w' hx => by
      and_intros <;> (first | (have hz := hx.size; simp at hz; omega) | ((first | rw [hx.cells _ _ (by first | (simp; done) | (simp; omega))] | rw [hx.frozens _ _ (by first | (simp; done) | (simp; omega))]); (first | (simp [go_sem]; done) | (simp [go_sem, World.cell?_alloc_past]; done) | (simp [go_sem, World.frozen?]; done))))
    have HBX := HB
    go_wp2_with fail
    refine (ReflexCorners_at A L c1 N _ HLN.out (r1.ext (by (repeat (first | exact Ext.refl _ | assumption | apply Ext.alloc | apply Ext.drew | apply Ext.drewN | (refine Ext.trans ?_ (by assumption)))))) hn10).mono ?_
    rw [HVV.out]
    rintro e wa ⟨A2, c2, rfl, ox, xa⟩
    have fa := HB.out wa (by (repeat (first | exact Ext.refl _ | assumption | apply Ext.alloc | apply Ext.drew | apply Ext.drewN | (refine Ext.trans ?_ (by assumption)))))
    rw [HVQ.out]
    have rx := ox.r
    clear ox
    go_wp2_with fail
    refine (LowestCorner_at A L c1 N _ _ HLN.out (r1.ext (by (repeat (first | exact Ext.refl _ | assumption | apply Ext.alloc | apply Ext.drew | apply Ext.drewN | (refine Ext.trans ?_ (by assumption)))))) hn10 HLV.out).mono ?_
    rintro e wc ⟨rfl, xc⟩
    have fc := HB.out wc (by (repeat (first | exact Ext.refl _ | assumption | apply Ext.alloc | apply Ext.drew | apply Ext.drewN | (refine Ext.trans ?_ (by assumption)))))
    have rxc := rx.ext (show Ext wa wc by (repeat (first | exact Ext.refl _ | assumption | apply Ext.alloc | apply Ext.drew | apply Ext.drewN | (refine Ext.trans ?_ (by assumption)))))
    obtain ⟨b3, hb3⟩ : ∃ b3, b3 = w1.heap.size := ⟨_, rfl⟩
    have HBQ := hide (show ∀ w', Ext wc w' → w'.cell? ⟨b3, 0, none⟩ = some (.slice A N c1) ∧ b3 < w'.heap.size from fun w' hx => by rw [hb3]; exact HBX.out w' (show Ext (w1.alloc (.cells #[.slice A N c1] 26)) w' from Ext.trans (show Ext (w1.alloc (.cells #[.slice A N c1] 26)) wc by (repeat (first | exact Ext.refl _ | assumption | apply Ext.alloc | apply Ext.drew | apply Ext.drewN | (refine Ext.trans ?_ (by assumption))))) hx))
    have HR := hide (show ∀ w', Ext wc w' → RPts w' A L from fun w' hx => r1.ext (Ext.trans (show Ext w1 wc by (repeat (first | exact Ext.refl _ | assumption | apply Ext.alloc | apply Ext.drew | apply Ext.drewN | (refine Ext.trans ?_ (by assumption))))) hx))
    have HX0 := hide (show Ext w wc by (repeat (first | exact Ext.refl _ | assumption | apply Ext.alloc | apply Ext.drew | apply Ext.drewN | (refine Ext.trans ?_ (by assumption)))))
    rw [← hb3]
    clear HB HBX fa fc xa xc r1 rx hb3 x1
    have HB := HBQ
    go_wp2
    go_loopw [6] (fun kv wr => ∃ k : Nat, k ≤ N ∧ kv = .int .i64 (k : Int) ∧ Ext wc wr) (fun kv _ => N - (intOf kv).toNat)
    case atStart => exact ⟨0, Nat.zero_le _, rfl, Ext.refl _⟩
    case round =>
      obtain ⟨k, hk, rfl, hbl⟩ := hrel
      obtain ⟨wq, rfl⟩ : ∃ wq : World, wq = wr := ⟨_, rfl⟩
      have fq := HB.out wq hbl
      by_cases hkl : k < N
      · have q1 : (k : Int) < (N : Int) := by omega
        have h1 := HHS.out k hkl
        have h2 := HRI.out k hkl
        have H1 := hide h1
        have H2 := hide h2
        clear h1 h2
        go_wp2
        refine wp_flow (by kernel_rfl) (by kernel_rfl) (fun u => ⟨#[_, _, _, _, _, _, _, _, _, _, _, _, _, _, _, _, _, _, _, _, _, _, u 0, u 1, u 2, u 3, u 4, u 5, u 6, _, _, _, _, _, _, _, _, _, _, _, _, _, _, _, _, _, _, _, _, _, _, _, _, _, _, _, _, _, _, _, _, _, _, _, _, _, _, _, _, _, _, _, _, _, _, _], _⟩) (fun i => List.getD [_, _, _, _, _, _, _] i undef) [is ?v1_0, is ?v1_1, is ?v1_2, is ?v1_3, is ?v1_4, is ?v1_5, is ?v1_6] (fun w' => w'.cell? ⟨b3, 0, none⟩ = some (.slice A N c1) ∧ b3 < w'.heap.size) _ rfl ?hC1 ?hs1 ?hV1 ?fin1
        case hC1 => exact fun w' hx => HB.out w' (hbl.trans hx)
        case hs1 =>
          repeat' (first
            | exact FSteps.nil
            | refine FSteps.cons ?_ ?_
            | (refine FStep.off_ _ _ _ rfl rfl ?_ (fun _ => rfl) ?_; (focus (intro u w hd; simp [vOf, is, Region.binds] at hd; simp [hd])); (intro w'; exact rfl); done)
            | ((first
                | refine FStep.plain rfl ?_
                | (refine FStep.on_ _ _ _ rfl rfl ?_ ?_; (focus (intro u w hd; simp [vOf, is, Region.binds] at hd; simp [hd]))))
               intro u w hW hC hd K hK
               (try simp [vOf, is, Region.binds] at hd)
               simp only [upd, Nat.reduceEqDiff, if_true, if_false] at hK
               (try simp only [hd] at hK)
               go_simp
               (first
                 | (refine hK _ _ ?_ ?_; (first | exact rfl); (repeat (first | exact Ext.refl _ | assumption | apply Ext.alloc | apply Ext.drew | apply Ext.drewN | (refine Ext.trans ?_ (by assumption)))))
                 | (go_at_call 10; refine (has_at A2 V c2 q (k : Int) _ _ HVQ.out (rxc.ext (hbl.trans hW)) (by omega) H1.out).mono ?_; rintro e w1 ⟨rfl, rfl⟩; (try go_simp); refine hK _ _ ?_ ?_; exact rfl; exact Ext.refl _)
                 | (go_at_call 11; refine (IsReflex_at A L c1 N k _ _ HLN.out (HR.out _ (hbl.trans hW)) hn10 H2.out).mono ?_; rintro e w1 ⟨rfl, hb⟩; (try go_simp); refine hK _ _ ?_ ?_; (first | exact rfl); (repeat (first | exact Ext.refl _ | assumption | apply Ext.alloc | apply Ext.drew | apply Ext.drewN | (refine Ext.trans ?_ (by assumption))))))))
        case hV1 => (simp only [List.forall_mem_cons]; simp [stable_is])
        case fin1 =>
          intro u w2 hW2 hC2 hd
          simp only [AllV, is] at hd
          simp only [hd]
          clear hd
          clear hC2
          go_wp2
          go_roundw
          case rel => exact ⟨k + 1, by omega, by go_num, hbl.trans hW2⟩
          case measure => simp [intOf]; omega
      · have q1 : ¬ (k : Int) < (N : Int) := by omega
        have e : k = N := by omega
        have h1 : (3 : Int) ≤ (N : Int) - (q : Int) := by omega
        have HE := hide (show Ext w wq from HX0.out.trans hbl)
        have HRW := hide (show ∀ w', Ext wq w' → RPts w' A L from fun w' hx => HR.out w' (hbl.trans hx))
        have HBW := hide (show ∀ w', Ext wq w' → w'.cell? ⟨b3, 0, none⟩ = some (.slice A N c1) ∧ b3 < w'.heap.size from fun w' hx => HB.out w' (hbl.trans hx))
        clear HR HB HBQ HX0 hbl rxc fq HHS HRI hk e
        have HR := HRW
        have HB := HBW
        clear HRW HBW
        have fq := HB.out wq (Ext.refl _)
        cases hcv : ((q : Int) == 0)
        · have HCV := hide (HCV0.out.trans hcv)
          cases rv
          · go_wp2
            refine wp_flow (by kernel_rfl) (by kernel_rfl) (fun u => ⟨#[_, _, u 47, _, _, _, _, _, _, _, _, _, _, _, _, _, _, _, _, _, _, _, _, _, _, _, _, _, _, u 0, u 1, u 2, u 3, u 4, u 5, u 6, u 7, u 8, u 9, u 10, u 11, u 12, u 13, u 14, u 15, u 16, u 17, u 18, u 19, u 20, u 21, u 22, u 23, u 24, u 25, u 26, u 27, u 28, u 29, u 30, u 31, u 32, u 33, u 34, u 35, u 36, u 37, u 38, u 39, u 40, u 41, u 42, u 43, u 44, u 45, u 46], _⟩) (fun i => List.getD [_, _, _, _, _, _, _, _, _, _, _, _, _, _, _, _, _, _, _, _, _, _, _, _, _, _, _, _, _, _, _, _, _, _, _, _, _, _, _, _, _, _, _, _, _, _, _, _] i undef) [is (.pointer (some ⟨b3, 0, none⟩)), is (.slice A N c1), is (.int .i64 ((N : Int))), is (.slice A2 q c2), is (.int .i64 ((q : Int))), is (.int .i64 ((N : Int) - (q : Int))), is (.bool true), is (.bool true), is (.agg #[.slice A N c1]), is (.int .i64 ((N : Int) - 2 * (q : Int))), is (.pointer (some ⟨b3, 0, none⟩)), is (.slice A N c1), is (.int .i64 ((N : Int))), is (.slice A2 q c2), is (.int .i64 ((q : Int))), is (.int .i64 (2 * (q : Int))), is (.int .i64 ((N : Int) - 2 * (q : Int))), is (.bool true), is (.bool true), is (.bool true), is (.int .i64 ((lw : Int))), is (.bool true), is (.bool true), is (.bool true), is (.agg #[.slice A N c1]), is (.int .i64 ((lw : Int))), is (.bool false), is (.bool true), is (.bool true), is (.bool true), is (.agg #[.slice A N c1]), is (.bool false), is (.slice A2 q c2), is (.int .i64 ((q : Int))), is (.bool false), is (.bool true), is (.bool true), is (.bool true), is (.agg #[.slice A N c1]), is (.bool false), is (.bool true), is (.bool true), is (undef), is (undef), is (undef), is (.bool true), is (.bool true), is (.bool true)] (fun w' => w'.cell? ⟨b3, 0, none⟩ = some (.slice A N c1) ∧ b3 < w'.heap.size) _ rfl ?hC2 ?hs2 ?hV2 ?fin2
            case hC2 => exact fun w' hx => HB.out w' (by (repeat (first | exact Ext.refl _ | assumption | apply Ext.alloc | apply Ext.drew | apply Ext.drewN | (refine Ext.trans ?_ (by assumption)))))
            case hs2 =>
              refine FSteps.cons (FStep.value (.pointer (some ⟨b3, 0, none⟩)) (fun _ _ _ => wanted_none rfl) (fun _ _ => rfl) (fun _ => rfl) (fun u w hW hC (hd : After _ _ u w) ρ hρ => ?_)) ?_
              · have r3 : ρ (.tmp 3) = .pointer (some ⟨b3, 0, none⟩) := (by subst hρ; rfl); clear hρ hd
                (go_simp; (try (first | exact wrap_in _ (by omega) (by omega) | omega | exact H4.out)))
              refine FSteps.cons (FStep.value (.slice A N c1) (fun _ _ _ => wanted_none rfl) (fun _ _ => rfl) (fun _ => rfl) (fun u w hW hC (hd : After _ _ u w) ρ hρ => ?_)) ?_
              · have r29 : ρ (.tmp 29) = .pointer (some ⟨b3, 0, none⟩) := (by rw [hρ]; exact hd.get 0 _ rfl rfl); clear hρ hd
                (go_simp; (try (first | exact wrap_in _ (by omega) (by omega) | omega | exact H4.out)))
              refine FSteps.cons (FStep.value (.int .i64 ((N : Int))) (fun _ _ _ => wanted_none rfl) (fun _ _ => rfl) (fun _ => rfl) (fun u w hW hC (hd : After _ _ u w) ρ hρ => ?_)) ?_
              · have r30 : ρ (.tmp 30) = .slice A N c1 := (by rw [hρ]; exact hd.get 0 _ rfl rfl); clear hρ hd
                (go_simp; (try (first | exact wrap_in _ (by omega) (by omega) | omega | exact H4.out)))
              refine FSteps.cons (FStep.value (.slice A2 q c2) (fun _ _ _ => wanted_none rfl) (fun _ _ => rfl) (fun _ => rfl) (fun u w hW hC (hd : After _ _ u w) ρ hρ => ?_)) ?_
              · have r4 : ρ (.tmp 4) = .slice A2 q c2 := (by subst hρ; rfl); clear hρ hd
                (go_simp; (try (first | exact wrap_in _ (by omega) (by omega) | omega | exact H4.out)))
              refine FSteps.cons (FStep.value (.int .i64 ((q : Int))) (fun _ _ _ => wanted_none rfl) (fun _ _ => rfl) (fun _ => rfl) (fun u w hW hC (hd : After _ _ u w) ρ hρ => ?_)) ?_
              · have r32 : ρ (.tmp 32) = .slice A2 q c2 := (by rw [hρ]; exact hd.get 0 _ rfl rfl); clear hρ hd
                (go_simp; (try (first | exact wrap_in _ (by omega) (by omega) | omega | exact H4.out)))
              refine FSteps.cons (FStep.value (.int .i64 ((N : Int) - (q : Int))) (fun _ _ _ => wanted_none rfl) (fun _ _ => rfl) (fun _ => rfl) (fun u w hW hC (hd : After _ _ u w) ρ hρ => ?_)) ?_
              · have r31 : ρ (.tmp 31) = .int .i64 ((N : Int)) := (by rw [hρ]; exact hd.get 0 _ rfl rfl); have r33 : ρ (.tmp 33) = .int .i64 ((q : Int)) := (by rw [hρ]; exact hd.get 1 _ rfl rfl); clear hρ hd
                (go_simp; (try (first | exact wrap_in _ (by omega) (by omega) | omega | exact H4.out)))
              refine FSteps.cons (FStep.value (.bool true) (fun _ _ _ => wanted_none rfl) (fun _ _ => rfl) (fun _ => rfl) (fun u w hW hC (hd : After _ _ u w) ρ hρ => ?_)) ?_
              · have r34 : ρ (.tmp 34) = .int .i64 ((N : Int) - (q : Int)) := (by rw [hρ]; exact hd.get 0 _ rfl rfl); have rc : ∀ v, ρ (.const v) = v := (by subst hρ; exact fun _ => rfl); clear hρ hd
                (go_simp; (try (first | exact wrap_in _ (by omega) (by omega) | omega | exact H4.out)))
              refine FSteps.cons (FStep.value (.bool true) (fun _ _ _ => wanted_none rfl) (fun _ _ => rfl) (fun _ => rfl) (fun u w hW hC (hd : After _ _ u w) ρ hρ => ?_)) ?_
              · have r35 : ρ (.tmp 35) = .bool true := (by rw [hρ]; exact hd.get 0 _ rfl rfl); clear hρ hd
                (go_simp; (try (first | exact wrap_in _ (by omega) (by omega) | omega | exact H4.out)))
              refine FSteps.cons (FStep.value (.agg #[.slice A N c1]) (fun u w hd => wanted_on 7 36 true rfl rfl (congrArg some (hd.get 0 _ rfl rfl))) (fun _ _ => rfl) (fun _ => rfl) (fun u w hW hC (hd : After _ _ u w) ρ hρ => ?_)) ?_
              · have r3 : ρ (.tmp 3) = .pointer (some ⟨b3, 0, none⟩) := (by subst hρ; rfl); clear hρ hd
                (go_simp; (try (first | exact wrap_in _ (by omega) (by omega) | omega | exact H4.out)))
              refine FSteps.cons (FStep.callC (.int .i64 ((N : Int) - 2 * (q : Int))) _ #[.agg #[.slice A N c1]] (fun u w hd => wanted_on 7 36 true rfl rfl (congrArg some (hd.get 1 _ rfl rfl))) (fun _ _ => rfl) (fun _ => rfl) (fun u w hW hC (hd : After _ _ u w) ρ hρ => ?_) (fun w hW => TurnSum_at A L c1 N _ w HLN.out (HR.out w (by (repeat (first | exact Ext.refl _ | assumption | apply Ext.alloc | apply Ext.drew | apply Ext.drewN | (refine Ext.trans ?_ (by assumption)))))) hn10 HTS.out)) ?_
              · have r37 : ρ (.tmp 37) = .agg #[.slice A N c1] := (by rw [hρ]; exact hd.get 0 _ rfl rfl); have rf : ∀ f, ρ (.func f) = .func (.func f) #[] #[] := (by subst hρ; exact fun _ => rfl); clear hρ hd
                (go_simp; (try (first | exact wrap_in _ (by omega) (by omega) | omega | exact H4.out)))
              refine FSteps.cons (FStep.value (.pointer (some ⟨b3, 0, none⟩)) (fun u w hd => wanted_on 7 36 true rfl rfl (congrArg some (hd.get 0 _ rfl rfl))) (fun _ _ => rfl) (fun _ => rfl) (fun u w hW hC (hd : After _ _ u w) ρ hρ => ?_)) ?_
              · have r3 : ρ (.tmp 3) = .pointer (some ⟨b3, 0, none⟩) := (by subst hρ; rfl); clear hρ hd
                (go_simp; (try (first | exact wrap_in _ (by omega) (by omega) | omega | exact H4.out)))
              refine FSteps.cons (FStep.value (.slice A N c1) (fun u w hd => wanted_on 7 36 true rfl rfl (congrArg some (hd.get 1 _ rfl rfl))) (fun _ _ => rfl) (fun _ => rfl) (fun u w hW hC (hd : After _ _ u w) ρ hρ => ?_)) ?_
              · have r39 : ρ (.tmp 39) = .pointer (some ⟨b3, 0, none⟩) := (by rw [hρ]; exact hd.get 0 _ rfl rfl); clear hρ hd
                (go_simp; (try (first | exact wrap_in _ (by omega) (by omega) | omega | exact H4.out)))
              refine FSteps.cons (FStep.value (.int .i64 ((N : Int))) (fun u w hd => wanted_on 7 36 true rfl rfl (congrArg some (hd.get 1 _ rfl rfl))) (fun _ _ => rfl) (fun _ => rfl) (fun u w hW hC (hd : After _ _ u w) ρ hρ => ?_)) ?_
              · have r40 : ρ (.tmp 40) = .slice A N c1 := (by rw [hρ]; exact hd.get 0 _ rfl rfl); clear hρ hd
                (go_simp; (try (first | exact wrap_in _ (by omega) (by omega) | omega | exact H4.out)))
              refine FSteps.cons (FStep.value (.slice A2 q c2) (fun u w hd => wanted_on 7 36 true rfl rfl (congrArg some (hd.get 0 _ rfl rfl))) (fun _ _ => rfl) (fun _ => rfl) (fun u w hW hC (hd : After _ _ u w) ρ hρ => ?_)) ?_
              · have r4 : ρ (.tmp 4) = .slice A2 q c2 := (by subst hρ; rfl); clear hρ hd
                (go_simp; (try (first | exact wrap_in _ (by omega) (by omega) | omega | exact H4.out)))
              refine FSteps.cons (FStep.value (.int .i64 ((q : Int))) (fun u w hd => wanted_on 7 36 true rfl rfl (congrArg some (hd.get 1 _ rfl rfl))) (fun _ _ => rfl) (fun _ => rfl) (fun u w hW hC (hd : After _ _ u w) ρ hρ => ?_)) ?_
              · have r42 : ρ (.tmp 42) = .slice A2 q c2 := (by rw [hρ]; exact hd.get 0 _ rfl rfl); clear hρ hd
                (go_simp; (try (first | exact wrap_in _ (by omega) (by omega) | omega | exact H4.out)))
              refine FSteps.cons (FStep.value (.int .i64 (2 * (q : Int))) (fun u w hd => wanted_on 7 36 true rfl rfl (congrArg some (hd.get 1 _ rfl rfl))) (fun _ _ => rfl) (fun _ => rfl) (fun u w hW hC (hd : After _ _ u w) ρ hρ => ?_)) ?_
              · have r43 : ρ (.tmp 43) = .int .i64 ((q : Int)) := (by rw [hρ]; exact hd.get 0 _ rfl rfl); have rc : ∀ v, ρ (.const v) = v := (by subst hρ; exact fun _ => rfl); clear hρ hd
                (go_simp; (try (first | exact wrap_in _ (by omega) (by omega) | omega | exact H4.out)))
              refine FSteps.cons (FStep.value (.int .i64 ((N : Int) - 2 * (q : Int))) (fun u w hd => wanted_on 7 36 true rfl rfl (congrArg some (hd.get 2 _ rfl rfl))) (fun _ _ => rfl) (fun _ => rfl) (fun u w hW hC (hd : After _ _ u w) ρ hρ => ?_)) ?_
              · have r41 : ρ (.tmp 41) = .int .i64 ((N : Int)) := (by rw [hρ]; exact hd.get 0 _ rfl rfl); have r44 : ρ (.tmp 44) = .int .i64 (2 * (q : Int)) := (by rw [hρ]; exact hd.get 1 _ rfl rfl); clear hρ hd
                (go_simp; (try (first | exact wrap_in _ (by omega) (by omega) | omega | exact H4.out)))
              refine FSteps.cons (FStep.value (.bool true) (fun u w hd => wanted_on 7 36 true rfl rfl (congrArg some (hd.get 2 _ rfl rfl))) (fun _ _ => rfl) (fun _ => rfl) (fun u w hW hC (hd : After _ _ u w) ρ hρ => ?_)) ?_
              · have r38 : ρ (.tmp 38) = .int .i64 ((N : Int) - 2 * (q : Int)) := (by rw [hρ]; exact hd.get 0 _ rfl rfl); have r45 : ρ (.tmp 45) = .int .i64 ((N : Int) - 2 * (q : Int)) := (by rw [hρ]; exact hd.get 1 _ rfl rfl); clear hρ hd
                (go_simp; (try (first | exact wrap_in _ (by omega) (by omega) | omega | exact H4.out)))
              refine FSteps.cons (FStep.value (.bool true) (fun _ _ _ => wanted_none rfl) (fun _ _ => rfl) (fun _ => rfl) (fun u w hW hC (hd : After _ _ u w) ρ hρ => ?_)) ?_
              · have r36 : ρ (.tmp 36) = .bool true := (by rw [hρ]; exact hd.get 0 _ rfl rfl); have r46 : ρ (.tmp 46) = .bool true := (by rw [hρ]; exact hd.get 1 _ rfl rfl); have rc : ∀ v, ρ (.const v) = v := (by subst hρ; exact fun _ => rfl); clear hρ hd
                (go_simp; (try (first | exact wrap_in _ (by omega) (by omega) | omega | exact H4.out)))
              refine FSteps.cons (FStep.value (.bool true) (fun _ _ _ => wanted_none rfl) (fun _ _ => rfl) (fun _ => rfl) (fun u w hW hC (hd : After _ _ u w) ρ hρ => ?_)) ?_
              · have r47 : ρ (.tmp 47) = .bool true := (by rw [hρ]; exact hd.get 0 _ rfl rfl); clear hρ hd
                (go_simp; (try (first | exact wrap_in _ (by omega) (by omega) | omega | exact H4.out)))
              refine FSteps.cons (FStep.value (.int .i64 ((lw : Int))) (fun u w hd => wanted_on 19 48 true rfl rfl (congrArg some (hd.get 0 _ rfl rfl))) (fun _ _ => rfl) (fun _ => rfl) (fun u w hW hC (hd : After _ _ u w) ρ hρ => ?_)) ?_
              · have r5 : ρ (.tmp 5) = .int .i64 ((lw : Int)) := (by subst hρ; rfl); clear hρ hd
                (go_simp; (try (first | exact wrap_in _ (by omega) (by omega) | omega | exact H4.out)))
              refine FSteps.cons (FStep.value (.bool true) (fun u w hd => wanted_on 19 48 true rfl rfl (congrArg some (hd.get 1 _ rfl rfl))) (fun _ _ => rfl) (fun _ => rfl) (fun u w hW hC (hd : After _ _ u w) ρ hρ => ?_)) ?_
              · have r49 : ρ (.tmp 49) = .int .i64 ((lw : Int)) := (by rw [hρ]; exact hd.get 0 _ rfl rfl); have rc : ∀ v, ρ (.const v) = v := (by subst hρ; exact fun _ => rfl); clear hρ hd
                (go_simp; (try (first | exact wrap_in _ (by omega) (by omega) | omega | exact H4.out)))
              refine FSteps.cons (FStep.value (.bool true) (fun _ _ _ => wanted_none rfl) (fun _ _ => rfl) (fun _ => rfl) (fun u w hW hC (hd : After _ _ u w) ρ hρ => ?_)) ?_
              · have r48 : ρ (.tmp 48) = .bool true := (by rw [hρ]; exact hd.get 0 _ rfl rfl); have r50 : ρ (.tmp 50) = .bool true := (by rw [hρ]; exact hd.get 1 _ rfl rfl); have rc : ∀ v, ρ (.const v) = v := (by subst hρ; exact fun _ => rfl); clear hρ hd
                (go_simp; (try (first | exact wrap_in _ (by omega) (by omega) | omega | exact H4.out)))
              refine FSteps.cons (FStep.value (.bool true) (fun _ _ _ => wanted_none rfl) (fun _ _ => rfl) (fun _ => rfl) (fun u w hW hC (hd : After _ _ u w) ρ hρ => ?_)) ?_
              · have r51 : ρ (.tmp 51) = .bool true := (by rw [hρ]; exact hd.get 0 _ rfl rfl); clear hρ hd
                (go_simp; (try (first | exact wrap_in _ (by omega) (by omega) | omega | exact H4.out)))
              refine FSteps.cons (FStep.value (.agg #[.slice A N c1]) (fun u w hd => wanted_on 23 52 true rfl rfl (congrArg some (hd.get 0 _ rfl rfl))) (fun _ _ => rfl) (fun _ => rfl) (fun u w hW hC (hd : After _ _ u w) ρ hρ => ?_)) ?_
              · have r3 : ρ (.tmp 3) = .pointer (some ⟨b3, 0, none⟩) := (by subst hρ; rfl); clear hρ hd
                (go_simp; (try (first | exact wrap_in _ (by omega) (by omega) | omega | exact H4.out)))
              refine FSteps.cons (FStep.value (.int .i64 ((lw : Int))) (fun u w hd => wanted_on 23 52 true rfl rfl (congrArg some (hd.get 0 _ rfl rfl))) (fun _ _ => rfl) (fun _ => rfl) (fun u w hW hC (hd : After _ _ u w) ρ hρ => ?_)) ?_
              · have r5 : ρ (.tmp 5) = .int .i64 ((lw : Int)) := (by subst hρ; rfl); clear hρ hd
                (go_simp; (try (first | exact wrap_in _ (by omega) (by omega) | omega | exact H4.out)))
              refine FSteps.cons (FStep.callC (.bool false) _ #[.agg #[.slice A N c1], .int .i64 ((lw : Int))] (fun u w hd => wanted_on 23 52 true rfl rfl (congrArg some (hd.get 2 _ rfl rfl))) (fun _ _ => rfl) (fun _ => rfl) (fun u w hW hC (hd : After _ _ u w) ρ hρ => ?_) (fun w hW => IsReflex_at A L c1 N lw _ w HLN.out (HR.out w (by (repeat (first | exact Ext.refl _ | assumption | apply Ext.alloc | apply Ext.drew | apply Ext.drewN | (refine Ext.trans ?_ (by assumption)))))) hn10 HIR.out)) ?_
              · have r53 : ρ (.tmp 53) = .agg #[.slice A N c1] := (by rw [hρ]; exact hd.get 0 _ rfl rfl); have r54 : ρ (.tmp 54) = .int .i64 ((lw : Int)) := (by rw [hρ]; exact hd.get 1 _ rfl rfl); have rf : ∀ f, ρ (.func f) = .func (.func f) #[] #[] := (by subst hρ; exact fun _ => rfl); clear hρ hd
                (go_simp; (try (first | exact wrap_in _ (by omega) (by omega) | omega | exact H4.out)))
              refine FSteps.cons (FStep.value (.bool true) (fun u w hd => wanted_on 23 52 true rfl rfl (congrArg some (hd.get 1 _ rfl rfl))) (fun _ _ => rfl) (fun _ => rfl) (fun u w hW hC (hd : After _ _ u w) ρ hρ => ?_)) ?_
              · have r55 : ρ (.tmp 55) = .bool false := (by rw [hρ]; exact hd.get 0 _ rfl rfl); clear hρ hd
                (go_simp; (try (first | exact wrap_in _ (by omega) (by omega) | omega | exact H4.out)))
              refine FSteps.cons (FStep.value (.bool true) (fun _ _ _ => wanted_none rfl) (fun _ _ => rfl) (fun _ => rfl) (fun u w hW hC (hd : After _ _ u w) ρ hρ => ?_)) ?_
              · have r52 : ρ (.tmp 52) = .bool true := (by rw [hρ]; exact hd.get 0 _ rfl rfl); have r56 : ρ (.tmp 56) = .bool true := (by rw [hρ]; exact hd.get 1 _ rfl rfl); have rc : ∀ v, ρ (.const v) = v := (by subst hρ; exact fun _ => rfl); clear hρ hd
                (go_simp; (try (first | exact wrap_in _ (by omega) (by omega) | omega | exact H4.out)))
              refine FSteps.cons (FStep.value (.bool true) (fun _ _ _ => wanted_none rfl) (fun _ _ => rfl) (fun _ => rfl) (fun u w hW hC (hd : After _ _ u w) ρ hρ => ?_)) ?_
              · have r57 : ρ (.tmp 57) = .bool true := (by rw [hρ]; exact hd.get 0 _ rfl rfl); clear hρ hd
                (go_simp; (try (first | exact wrap_in _ (by omega) (by omega) | omega | exact H4.out)))
              refine FSteps.cons (FStep.value (.agg #[.slice A N c1]) (fun u w hd => wanted_on 29 58 true rfl rfl (congrArg some (hd.get 0 _ rfl rfl))) (fun _ _ => rfl) (fun _ => rfl) (fun u w hW hC (hd : After _ _ u w) ρ hρ => ?_)) ?_
              · have r3 : ρ (.tmp 3) = .pointer (some ⟨b3, 0, none⟩) := (by subst hρ; rfl); clear hρ hd
                (go_simp; (try (first | exact wrap_in _ (by omega) (by omega) | omega | exact H4.out)))
              refine FSteps.cons (FStep.callC (.bool false) _ #[.agg #[.slice A N c1]] (fun u w hd => wanted_on 29 58 true rfl rfl (congrArg some (hd.get 1 _ rfl rfl))) (fun _ _ => rfl) (fun _ => rfl) (fun u w hW hC (hd : After _ _ u w) ρ hρ => ?_) (fun w hW => IsConvex_at A L c1 N _ w HLN.out (HR.out w (by (repeat (first | exact Ext.refl _ | assumption | apply Ext.alloc | apply Ext.drew | apply Ext.drewN | (refine Ext.trans ?_ (by assumption)))))) hn10 HCV.out)) ?_
              · have r59 : ρ (.tmp 59) = .agg #[.slice A N c1] := (by rw [hρ]; exact hd.get 0 _ rfl rfl); have rf : ∀ f, ρ (.func f) = .func (.func f) #[] #[] := (by subst hρ; exact fun _ => rfl); clear hρ hd
                (go_simp; (try (first | exact wrap_in _ (by omega) (by omega) | omega | exact H4.out)))
              refine FSteps.cons (FStep.value (.slice A2 q c2) (fun u w hd => wanted_on 29 58 true rfl rfl (congrArg some (hd.get 0 _ rfl rfl))) (fun _ _ => rfl) (fun _ => rfl) (fun u w hW hC (hd : After _ _ u w) ρ hρ => ?_)) ?_
              · have r4 : ρ (.tmp 4) = .slice A2 q c2 := (by subst hρ; rfl); clear hρ hd
                (go_simp; (try (first | exact wrap_in _ (by omega) (by omega) | omega | exact H4.out)))
              refine FSteps.cons (FStep.value (.int .i64 ((q : Int))) (fun u w hd => wanted_on 29 58 true rfl rfl (congrArg some (hd.get 1 _ rfl rfl))) (fun _ _ => rfl) (fun _ => rfl) (fun u w hW hC (hd : After _ _ u w) ρ hρ => ?_)) ?_
              · have r61 : ρ (.tmp 61) = .slice A2 q c2 := (by rw [hρ]; exact hd.get 0 _ rfl rfl); clear hρ hd
                (go_simp; (try (first | exact wrap_in _ (by omega) (by omega) | omega | exact H4.out)))
              refine FSteps.cons (FStep.value (.bool false) (fun u w hd => wanted_on 29 58 true rfl rfl (congrArg some (hd.get 1 _ rfl rfl))) (fun _ _ => rfl) (fun _ => rfl) (fun u w hW hC (hd : After _ _ u w) ρ hρ => ?_)) ?_
              · have r62 : ρ (.tmp 62) = .int .i64 ((q : Int)) := (by rw [hρ]; exact hd.get 0 _ rfl rfl); have rc : ∀ v, ρ (.const v) = v := (by subst hρ; exact fun _ => rfl); clear hρ hd
                (go_simp; (try (first | exact wrap_in _ (by omega) (by omega) | omega | exact H4.out)))
              refine FSteps.cons (FStep.value (.bool true) (fun u w hd => wanted_on 29 58 true rfl rfl (congrArg some (hd.get 2 _ rfl rfl))) (fun _ _ => rfl) (fun _ => rfl) (fun u w hW hC (hd : After _ _ u w) ρ hρ => ?_)) ?_
              · have r60 : ρ (.tmp 60) = .bool false := (by rw [hρ]; exact hd.get 0 _ rfl rfl); have r63 : ρ (.tmp 63) = .bool false := (by rw [hρ]; exact hd.get 1 _ rfl rfl); clear hρ hd
                (go_simp; (try (first | exact wrap_in _ (by omega) (by omega) | omega | exact H4.out)))
              refine FSteps.cons (FStep.value (.bool true) (fun _ _ _ => wanted_none rfl) (fun _ _ => rfl) (fun _ => rfl) (fun u w hW hC (hd : After _ _ u w) ρ hρ => ?_)) ?_
              · have r58 : ρ (.tmp 58) = .bool true := (by rw [hρ]; exact hd.get 0 _ rfl rfl); have r64 : ρ (.tmp 64) = .bool true := (by rw [hρ]; exact hd.get 1 _ rfl rfl); have rc : ∀ v, ρ (.const v) = v := (by subst hρ; exact fun _ => rfl); clear hρ hd
                (go_simp; (try (first | exact wrap_in _ (by omega) (by omega) | omega | exact H4.out)))
              refine FSteps.cons (FStep.value (.bool true) (fun _ _ _ => wanted_none rfl) (fun _ _ => rfl) (fun _ => rfl) (fun u w hW hC (hd : After _ _ u w) ρ hρ => ?_)) ?_
              · have r65 : ρ (.tmp 65) = .bool true := (by rw [hρ]; exact hd.get 0 _ rfl rfl); clear hρ hd
                (go_simp; (try (first | exact wrap_in _ (by omega) (by omega) | omega | exact H4.out)))
              refine FSteps.cons (FStep.value (.agg #[.slice A N c1]) (fun u w hd => wanted_on 37 66 true rfl rfl (congrArg some (hd.get 0 _ rfl rfl))) (fun _ _ => rfl) (fun _ => rfl) (fun u w hW hC (hd : After _ _ u w) ρ hρ => ?_)) ?_
              · have r3 : ρ (.tmp 3) = .pointer (some ⟨b3, 0, none⟩) := (by subst hρ; rfl); clear hρ hd
                (go_simp; (try (first | exact wrap_in _ (by omega) (by omega) | omega | exact H4.out)))
              refine FSteps.cons (FStep.callC (.bool false) _ #[.agg #[.slice A N c1]] (fun u w hd => wanted_on 37 66 true rfl rfl (congrArg some (hd.get 1 _ rfl rfl))) (fun _ _ => rfl) (fun _ => rfl) (fun u w hW hC (hd : After _ _ u w) ρ hρ => ?_) (fun w hW => IsRectangular_at A L c1 N _ w HLN.out (HR.out w (by (repeat (first | exact Ext.refl _ | assumption | apply Ext.alloc | apply Ext.drew | apply Ext.drewN | (refine Ext.trans ?_ (by assumption)))))) hn10 HRV.out)) ?_
              · have r67 : ρ (.tmp 67) = .agg #[.slice A N c1] := (by rw [hρ]; exact hd.get 0 _ rfl rfl); have rf : ∀ f, ρ (.func f) = .func (.func f) #[] #[] := (by subst hρ; exact fun _ => rfl); clear hρ hd
                (go_simp; (try (first | exact wrap_in _ (by omega) (by omega) | omega | exact H4.out)))
              refine FSteps.cons (FStep.value (.bool true) (fun u w hd => wanted_on 37 66 true rfl rfl (congrArg some (hd.get 1 _ rfl rfl))) (fun _ _ => rfl) (fun _ => rfl) (fun u w hW hC (hd : After _ _ u w) ρ hρ => ?_)) ?_
              · have r68 : ρ (.tmp 68) = .bool false := (by rw [hρ]; exact hd.get 0 _ rfl rfl); clear hρ hd
                (go_simp; (try (first | exact wrap_in _ (by omega) (by omega) | omega | exact H4.out)))
              refine FSteps.cons (FStep.value (.bool true) (fun u w hd => wanted_on 37 66 true rfl rfl (congrArg some (hd.get 2 _ rfl rfl))) (fun _ _ => rfl) (fun _ => rfl) (fun u w hW hC (hd : After _ _ u w) ρ hρ => ?_)) ?_
              · have r69 : ρ (.tmp 69) = .bool true := (by rw [hρ]; exact hd.get 0 _ rfl rfl); clear hρ hd
                (go_simp; (try (first | exact wrap_in _ (by omega) (by omega) | omega | exact H4.out)))
              refine FSteps.cons (FStep.off_ 41 70 false rfl rfl (fun u w hd => .inl (congrArg some (After.get (V := vOf _) hd 0 _ rfl rfl))) (fun _ => rfl) (fun _ => rfl)) ?_
              refine FSteps.cons (FStep.off_ 41 70 false rfl rfl (fun u w hd => .inl (congrArg some (After.get (V := vOf _) hd 1 _ rfl rfl))) (fun _ => rfl) (fun _ => rfl)) ?_
              refine FSteps.cons (FStep.off_ 41 70 false rfl rfl (fun u w hd => .inl (congrArg some (After.get (V := vOf _) hd 1 _ rfl rfl))) (fun _ => rfl) (fun _ => rfl)) ?_
              refine FSteps.cons (FStep.value (.bool true) (fun u w hd => wanted_on 37 66 true rfl rfl (congrArg some (hd.get 2 _ rfl rfl))) (fun _ _ => rfl) (fun _ => rfl) (fun u w hW hC (hd : After _ _ u w) ρ hρ => ?_)) ?_
              · have r70 : ρ (.tmp 70) = .bool true := (by rw [hρ]; exact hd.get 0 _ rfl rfl); have r73 : ρ (.tmp 73) = undef := (by rw [hρ]; exact hd.get 1 _ rfl rfl); have rc : ∀ v, ρ (.const v) = v := (by subst hρ; exact fun _ => rfl); clear hρ hd
                (go_simp; (try (first | exact wrap_in _ (by omega) (by omega) | omega | exact H4.out)))
              refine FSteps.cons (FStep.value (.bool true) (fun _ _ _ => wanted_none rfl) (fun _ _ => rfl) (fun _ => rfl) (fun u w hW hC (hd : After _ _ u w) ρ hρ => ?_)) ?_
              · have r66 : ρ (.tmp 66) = .bool true := (by rw [hρ]; exact hd.get 0 _ rfl rfl); have r74 : ρ (.tmp 74) = .bool true := (by rw [hρ]; exact hd.get 1 _ rfl rfl); have rc : ∀ v, ρ (.const v) = v := (by subst hρ; exact fun _ => rfl); clear hρ hd
                (go_simp; (try (first | exact wrap_in _ (by omega) (by omega) | omega | exact H4.out)))
              refine FSteps.cons (FStep.value (.bool true) (fun _ _ _ => wanted_none rfl) (fun _ _ => rfl) (fun _ => rfl) (fun u w hW hC (hd : After _ _ u w) ρ hρ => ?_)) ?_
              · have r75 : ρ (.tmp 75) = .bool true := (by rw [hρ]; exact hd.get 0 _ rfl rfl); clear hρ hd
                (go_simp; (try (first | exact wrap_in _ (by omega) (by omega) | omega | exact H4.out)))
              exact FSteps.nil
            case hV2 => (simp only [List.forall_mem_cons]; simp [stable_is])
            case fin2 =>
              intro u w2 hW2 hC2 hd
              have e47 : u 47 = .bool true := AllV.get _ 0 47 u w2 _ hd rfl
              clear hd
              refine then_normal ?_
              go_step
              refine wp_ret ?_
              refine bodyPost_ret (results_tmp rfl _ _ _) rfl ?_
              exact ⟨congrArg Ending.returned e47, (HE.out.trans hW2).below⟩
          · have H4 := hide (show (N : Int) - 2 * (q : Int) = 4 by have := p3 rfl; omega)
            clear p3
            go_wp2
            refine wp_flow (by kernel_rfl) (by kernel_rfl) (fun u => ⟨#[_, _, u 47, _, _, _, _, _, _, _, _, _, _, _, _, _, _, _, _, _, _, _, _, _, _, _, _, _, _, u 0, u 1, u 2, u 3, u 4, u 5, u 6, u 7, u 8, u 9, u 10, u 11, u 12, u 13, u 14, u 15, u 16, u 17, u 18, u 19, u 20, u 21, u 22, u 23, u 24, u 25, u 26, u 27, u 28, u 29, u 30, u 31, u 32, u 33, u 34, u 35, u 36, u 37, u 38, u 39, u 40, u 41, u 42, u 43, u 44, u 45, u 46], _⟩) (fun i => List.getD [_, _, _, _, _, _, _, _, _, _, _, _, _, _, _, _, _, _, _, _, _, _, _, _, _, _, _, _, _, _, _, _, _, _, _, _, _, _, _, _, _, _, _, _, _, _, _, _] i undef) [is (.pointer (some ⟨b3, 0, none⟩)), is (.slice A N c1), is (.int .i64 ((N : Int))), is (.slice A2 q c2), is (.int .i64 ((q : Int))), is (.int .i64 ((N : Int) - (q : Int))), is (.bool true), is (.bool true), is (.agg #[.slice A N c1]), is (.int .i64 ((N : Int) - 2 * (q : Int))), is (.pointer (some ⟨b3, 0, none⟩)), is (.slice A N c1), is (.int .i64 ((N : Int))), is (.slice A2 q c2), is (.int .i64 ((q : Int))), is (.int .i64 (2 * (q : Int))), is (.int .i64 ((N : Int) - 2 * (q : Int))), is (.bool true), is (.bool true), is (.bool true), is (.int .i64 ((lw : Int))), is (.bool true), is (.bool true), is (.bool true), is (.agg #[.slice A N c1]), is (.int .i64 ((lw : Int))), is (.bool false), is (.bool true), is (.bool true), is (.bool true), is (.agg #[.slice A N c1]), is (.bool false), is (.slice A2 q c2), is (.int .i64 ((q : Int))), is (.bool false), is (.bool true), is (.bool true), is (.bool true), is (.agg #[.slice A N c1]), is (.bool true), is (.bool false), is (.bool false), is (.agg #[.slice A N c1]), is (.int .i64 ((N : Int) - 2 * (q : Int))), is (.bool true), is (.bool true), is (.bool true), is (.bool true)] (fun w' => w'.cell? ⟨b3, 0, none⟩ = some (.slice A N c1) ∧ b3 < w'.heap.size) _ rfl ?hC3 ?hs3 ?hV3 ?fin3
            case hC3 => exact fun w' hx => HB.out w' (by (repeat (first | exact Ext.refl _ | assumption | apply Ext.alloc | apply Ext.drew | apply Ext.drewN | (refine Ext.trans ?_ (by assumption)))))
            case hs3 =>
              refine FSteps.cons (FStep.value (.pointer (some ⟨b3, 0, none⟩)) (fun _ _ _ => wanted_none rfl) (fun _ _ => rfl) (fun _ => rfl) (fun u w hW hC (hd : After _ _ u w) ρ hρ => ?_)) ?_
              · have r3 : ρ (.tmp 3) = .pointer (some ⟨b3, 0, none⟩) := (by subst hρ; rfl); clear hρ hd
                (go_simp; (try (first | exact wrap_in _ (by omega) (by omega) | omega | exact H4.out)))
              refine FSteps.cons (FStep.value (.slice A N c1) (fun _ _ _ => wanted_none rfl) (fun _ _ => rfl) (fun _ => rfl) (fun u w hW hC (hd : After _ _ u w) ρ hρ => ?_)) ?_
              · have r29 : ρ (.tmp 29) = .pointer (some ⟨b3, 0, none⟩) := (by rw [hρ]; exact hd.get 0 _ rfl rfl); clear hρ hd
                (go_simp; (try (first | exact wrap_in _ (by omega) (by omega) | omega | exact H4.out)))
              refine FSteps.cons (FStep.value (.int .i64 ((N : Int))) (fun _ _ _ => wanted_none rfl) (fun _ _ => rfl) (fun _ => rfl) (fun u w hW hC (hd : After _ _ u w) ρ hρ => ?_)) ?_
              · have r30 : ρ (.tmp 30) = .slice A N c1 := (by rw [hρ]; exact hd.get 0 _ rfl rfl); clear hρ hd
                (go_simp; (try (first | exact wrap_in _ (by omega) (by omega) | omega | exact H4.out)))
              refine FSteps.cons (FStep.value (.slice A2 q c2) (fun _ _ _ => wanted_none rfl) (fun _ _ => rfl) (fun _ => rfl) (fun u w hW hC (hd : After _ _ u w) ρ hρ => ?_)) ?_
              · have r4 : ρ (.tmp 4) = .slice A2 q c2 := (by subst hρ; rfl); clear hρ hd
                (go_simp; (try (first | exact wrap_in _ (by omega) (by omega) | omega | exact H4.out)))
              refine FSteps.cons (FStep.value (.int .i64 ((q : Int))) (fun _ _ _ => wanted_none rfl) (fun _ _ => rfl) (fun _ => rfl) (fun u w hW hC (hd : After _ _ u w) ρ hρ => ?_)) ?_
              · have r32 : ρ (.tmp 32) = .slice A2 q c2 := (by rw [hρ]; exact hd.get 0 _ rfl rfl); clear hρ hd
                (go_simp; (try (first | exact wrap_in _ (by omega) (by omega) | omega | exact H4.out)))
              refine FSteps.cons (FStep.value (.int .i64 ((N : Int) - (q : Int))) (fun _ _ _ => wanted_none rfl) (fun _ _ => rfl) (fun _ => rfl) (fun u w hW hC (hd : After _ _ u w) ρ hρ => ?_)) ?_
              · have r31 : ρ (.tmp 31) = .int .i64 ((N : Int)) := (by rw [hρ]; exact hd.get 0 _ rfl rfl); have r33 : ρ (.tmp 33) = .int .i64 ((q : Int)) := (by rw [hρ]; exact hd.get 1 _ rfl rfl); clear hρ hd
                (go_simp; (try (first | exact wrap_in _ (by omega) (by omega) | omega | exact H4.out)))
              refine FSteps.cons (FStep.value (.bool true) (fun _ _ _ => wanted_none rfl) (fun _ _ => rfl) (fun _ => rfl) (fun u w hW hC (hd : After _ _ u w) ρ hρ => ?_)) ?_
              · have r34 : ρ (.tmp 34) = .int .i64 ((N : Int) - (q : Int)) := (by rw [hρ]; exact hd.get 0 _ rfl rfl); have rc : ∀ v, ρ (.const v) = v := (by subst hρ; exact fun _ => rfl); clear hρ hd
                (go_simp; (try (first | exact wrap_in _ (by omega) (by omega) | omega | exact H4.out)))
              refine FSteps.cons (FStep.value (.bool true) (fun _ _ _ => wanted_none rfl) (fun _ _ => rfl) (fun _ => rfl) (fun u w hW hC (hd : After _ _ u w) ρ hρ => ?_)) ?_
              · have r35 : ρ (.tmp 35) = .bool true := (by rw [hρ]; exact hd.get 0 _ rfl rfl); clear hρ hd
                (go_simp; (try (first | exact wrap_in _ (by omega) (by omega) | omega | exact H4.out)))
              refine FSteps.cons (FStep.value (.agg #[.slice A N c1]) (fun u w hd => wanted_on 7 36 true rfl rfl (congrArg some (hd.get 0 _ rfl rfl))) (fun _ _ => rfl) (fun _ => rfl) (fun u w hW hC (hd : After _ _ u w) ρ hρ => ?_)) ?_
              · have r3 : ρ (.tmp 3) = .pointer (some ⟨b3, 0, none⟩) := (by subst hρ; rfl); clear hρ hd
                (go_simp; (try (first | exact wrap_in _ (by omega) (by omega) | omega | exact H4.out)))
              refine FSteps.cons (FStep.callC (.int .i64 ((N : Int) - 2 * (q : Int))) _ #[.agg #[.slice A N c1]] (fun u w hd => wanted_on 7 36 true rfl rfl (congrArg some (hd.get 1 _ rfl rfl))) (fun _ _ => rfl) (fun _ => rfl) (fun u w hW hC (hd : After _ _ u w) ρ hρ => ?_) (fun w hW => TurnSum_at A L c1 N _ w HLN.out (HR.out w (by (repeat (first | exact Ext.refl _ | assumption | apply Ext.alloc | apply Ext.drew | apply Ext.drewN | (refine Ext.trans ?_ (by assumption)))))) hn10 HTS.out)) ?_
              · have r37 : ρ (.tmp 37) = .agg #[.slice A N c1] := (by rw [hρ]; exact hd.get 0 _ rfl rfl); have rf : ∀ f, ρ (.func f) = .func (.func f) #[] #[] := (by subst hρ; exact fun _ => rfl); clear hρ hd
                (go_simp; (try (first | exact wrap_in _ (by omega) (by omega) | omega | exact H4.out)))
              refine FSteps.cons (FStep.value (.pointer (some ⟨b3, 0, none⟩)) (fun u w hd => wanted_on 7 36 true rfl rfl (congrArg some (hd.get 0 _ rfl rfl))) (fun _ _ => rfl) (fun _ => rfl) (fun u w hW hC (hd : After _ _ u w) ρ hρ => ?_)) ?_
              · have r3 : ρ (.tmp 3) = .pointer (some ⟨b3, 0, none⟩) := (by subst hρ; rfl); clear hρ hd
                (go_simp; (try (first | exact wrap_in _ (by omega) (by omega) | omega | exact H4.out)))
              refine FSteps.cons (FStep.value (.slice A N c1) (fun u w hd => wanted_on 7 36 true rfl rfl (congrArg some (hd.get 1 _ rfl rfl))) (fun _ _ => rfl) (fun _ => rfl) (fun u w hW hC (hd : After _ _ u w) ρ hρ => ?_)) ?_
              · have r39 : ρ (.tmp 39) = .pointer (some ⟨b3, 0, none⟩) := (by rw [hρ]; exact hd.get 0 _ rfl rfl); clear hρ hd
                (go_simp; (try (first | exact wrap_in _ (by omega) (by omega) | omega | exact H4.out)))
              refine FSteps.cons (FStep.value (.int .i64 ((N : Int))) (fun u w hd => wanted_on 7 36 true rfl rfl (congrArg some (hd.get 1 _ rfl rfl))) (fun _ _ => rfl) (fun _ => rfl) (fun u w hW hC (hd : After _ _ u w) ρ hρ => ?_)) ?_
              · have r40 : ρ (.tmp 40) = .slice A N c1 := (by rw [hρ]; exact hd.get 0 _ rfl rfl); clear hρ hd
                (go_simp; (try (first | exact wrap_in _ (by omega) (by omega) | omega | exact H4.out)))
              refine FSteps.cons (FStep.value (.slice A2 q c2) (fun u w hd => wanted_on 7 36 true rfl rfl (congrArg some (hd.get 0 _ rfl rfl))) (fun _ _ => rfl) (fun _ => rfl) (fun u w hW hC (hd : After _ _ u w) ρ hρ => ?_)) ?_
              · have r4 : ρ (.tmp 4) = .slice A2 q c2 := (by subst hρ; rfl); clear hρ hd
                (go_simp; (try (first | exact wrap_in _ (by omega) (by omega) | omega | exact H4.out)))
              refine FSteps.cons (FStep.value (.int .i64 ((q : Int))) (fun u w hd => wanted_on 7 36 true rfl rfl (congrArg some (hd.get 1 _ rfl rfl))) (fun _ _ => rfl) (fun _ => rfl) (fun u w hW hC (hd : After _ _ u w) ρ hρ => ?_)) ?_
              · have r42 : ρ (.tmp 42) = .slice A2 q c2 := (by rw [hρ]; exact hd.get 0 _ rfl rfl); clear hρ hd
                (go_simp; (try (first | exact wrap_in _ (by omega) (by omega) | omega | exact H4.out)))
              refine FSteps.cons (FStep.value (.int .i64 (2 * (q : Int))) (fun u w hd => wanted_on 7 36 true rfl rfl (congrArg some (hd.get 1 _ rfl rfl))) (fun _ _ => rfl) (fun _ => rfl) (fun u w hW hC (hd : After _ _ u w) ρ hρ => ?_)) ?_
              · have r43 : ρ (.tmp 43) = .int .i64 ((q : Int)) := (by rw [hρ]; exact hd.get 0 _ rfl rfl); have rc : ∀ v, ρ (.const v) = v := (by subst hρ; exact fun _ => rfl); clear hρ hd
                (go_simp; (try (first | exact wrap_in _ (by omega) (by omega) | omega | exact H4.out)))
              refine FSteps.cons (FStep.value (.int .i64 ((N : Int) - 2 * (q : Int))) (fun u w hd => wanted_on 7 36 true rfl rfl (congrArg some (hd.get 2 _ rfl rfl))) (fun _ _ => rfl) (fun _ => rfl) (fun u w hW hC (hd : After _ _ u w) ρ hρ => ?_)) ?_
              · have r41 : ρ (.tmp 41) = .int .i64 ((N : Int)) := (by rw [hρ]; exact hd.get 0 _ rfl rfl); have r44 : ρ (.tmp 44) = .int .i64 (2 * (q : Int)) := (by rw [hρ]; exact hd.get 1 _ rfl rfl); clear hρ hd
                (go_simp; (try (first | exact wrap_in _ (by omega) (by omega) | omega | exact H4.out)))
              refine FSteps.cons (FStep.value (.bool true) (fun u w hd => wanted_on 7 36 true rfl rfl (congrArg some (hd.get 2 _ rfl rfl))) (fun _ _ => rfl) (fun _ => rfl) (fun u w hW hC (hd : After _ _ u w) ρ hρ => ?_)) ?_
              · have r38 : ρ (.tmp 38) = .int .i64 ((N : Int) - 2 * (q : Int)) := (by rw [hρ]; exact hd.get 0 _ rfl rfl); have r45 : ρ (.tmp 45) = .int .i64 ((N : Int) - 2 * (q : Int)) := (by rw [hρ]; exact hd.get 1 _ rfl rfl); clear hρ hd
                (go_simp; (try (first | exact wrap_in _ (by omega) (by omega) | omega | exact H4.out)))
              refine FSteps.cons (FStep.value (.bool true) (fun _ _ _ => wanted_none rfl) (fun _ _ => rfl) (fun _ => rfl) (fun u w hW hC (hd : After _ _ u w) ρ hρ => ?_)) ?_
              · have r36 : ρ (.tmp 36) = .bool true := (by rw [hρ]; exact hd.get 0 _ rfl rfl); have r46 : ρ (.tmp 46) = .bool true := (by rw [hρ]; exact hd.get 1 _ rfl rfl); have rc : ∀ v, ρ (.const v) = v := (by subst hρ; exact fun _ => rfl); clear hρ hd
                (go_simp; (try (first | exact wrap_in _ (by omega) (by omega) | omega | exact H4.out)))
              refine FSteps.cons (FStep.value (.bool true) (fun _ _ _ => wanted_none rfl) (fun _ _ => rfl) (fun _ => rfl) (fun u w hW hC (hd : After _ _ u w) ρ hρ => ?_)) ?_
              · have r47 : ρ (.tmp 47) = .bool true := (by rw [hρ]; exact hd.get 0 _ rfl rfl); clear hρ hd
                (go_simp; (try (first | exact wrap_in _ (by omega) (by omega) | omega | exact H4.out)))
              refine FSteps.cons (FStep.value (.int .i64 ((lw : Int))) (fun u w hd => wanted_on 19 48 true rfl rfl (congrArg some (hd.get 0 _ rfl rfl))) (fun _ _ => rfl) (fun _ => rfl) (fun u w hW hC (hd : After _ _ u w) ρ hρ => ?_)) ?_
              · have r5 : ρ (.tmp 5) = .int .i64 ((lw : Int)) := (by subst hρ; rfl); clear hρ hd
                (go_simp; (try (first | exact wrap_in _ (by omega) (by omega) | omega | exact H4.out)))
              refine FSteps.cons (FStep.value (.bool true) (fun u w hd => wanted_on 19 48 true rfl rfl (congrArg some (hd.get 1 _ rfl rfl))) (fun _ _ => rfl) (fun _ => rfl) (fun u w hW hC (hd : After _ _ u w) ρ hρ => ?_)) ?_
              · have r49 : ρ (.tmp 49) = .int .i64 ((lw : Int)) := (by rw [hρ]; exact hd.get 0 _ rfl rfl); have rc : ∀ v, ρ (.const v) = v := (by subst hρ; exact fun _ => rfl); clear hρ hd
                (go_simp; (try (first | exact wrap_in _ (by omega) (by omega) | omega | exact H4.out)))
              refine FSteps.cons (FStep.value (.bool true) (fun _ _ _ => wanted_none rfl) (fun _ _ => rfl) (fun _ => rfl) (fun u w hW hC (hd : After _ _ u w) ρ hρ => ?_)) ?_
              · have r48 : ρ (.tmp 48) = .bool true := (by rw [hρ]; exact hd.get 0 _ rfl rfl); have r50 : ρ (.tmp 50) = .bool true := (by rw [hρ]; exact hd.get 1 _ rfl rfl); have rc : ∀ v, ρ (.const v) = v := (by subst hρ; exact fun _ => rfl); clear hρ hd
                (go_simp; (try (first | exact wrap_in _ (by omega) (by omega) | omega | exact H4.out)))
              refine FSteps.cons (FStep.value (.bool true) (fun _ _ _ => wanted_none rfl) (fun _ _ => rfl) (fun _ => rfl) (fun u w hW hC (hd : After _ _ u w) ρ hρ => ?_)) ?_
              · have r51 : ρ (.tmp 51) = .bool true := (by rw [hρ]; exact hd.get 0 _ rfl rfl); clear hρ hd
                (go_simp; (try (first | exact wrap_in _ (by omega) (by omega) | omega | exact H4.out)))
              refine FSteps.cons (FStep.value (.agg #[.slice A N c1]) (fun u w hd => wanted_on 23 52 true rfl rfl (congrArg some (hd.get 0 _ rfl rfl))) (fun _ _ => rfl) (fun _ => rfl) (fun u w hW hC (hd : After _ _ u w) ρ hρ => ?_)) ?_
              · have r3 : ρ (.tmp 3) = .pointer (some ⟨b3, 0, none⟩) := (by subst hρ; rfl); clear hρ hd
                (go_simp; (try (first | exact wrap_in _ (by omega) (by omega) | omega | exact H4.out)))
              refine FSteps.cons (FStep.value (.int .i64 ((lw : Int))) (fun u w hd => wanted_on 23 52 true rfl rfl (congrArg some (hd.get 0 _ rfl rfl))) (fun _ _ => rfl) (fun _ => rfl) (fun u w hW hC (hd : After _ _ u w) ρ hρ => ?_)) ?_
              · have r5 : ρ (.tmp 5) = .int .i64 ((lw : Int)) := (by subst hρ; rfl); clear hρ hd
                (go_simp; (try (first | exact wrap_in _ (by omega) (by omega) | omega | exact H4.out)))
              refine FSteps.cons (FStep.callC (.bool false) _ #[.agg #[.slice A N c1], .int .i64 ((lw : Int))] (fun u w hd => wanted_on 23 52 true rfl rfl (congrArg some (hd.get 2 _ rfl rfl))) (fun _ _ => rfl) (fun _ => rfl) (fun u w hW hC (hd : After _ _ u w) ρ hρ => ?_) (fun w hW => IsReflex_at A L c1 N lw _ w HLN.out (HR.out w (by (repeat (first | exact Ext.refl _ | assumption | apply Ext.alloc | apply Ext.drew | apply Ext.drewN | (refine Ext.trans ?_ (by assumption)))))) hn10 HIR.out)) ?_
              · have r53 : ρ (.tmp 53) = .agg #[.slice A N c1] := (by rw [hρ]; exact hd.get 0 _ rfl rfl); have r54 : ρ (.tmp 54) = .int .i64 ((lw : Int)) := (by rw [hρ]; exact hd.get 1 _ rfl rfl); have rf : ∀ f, ρ (.func f) = .func (.func f) #[] #[] := (by subst hρ; exact fun _ => rfl); clear hρ hd
                (go_simp; (try (first | exact wrap_in _ (by omega) (by omega) | omega | exact H4.out)))
              refine FSteps.cons (FStep.value (.bool true) (fun u w hd => wanted_on 23 52 true rfl rfl (congrArg some (hd.get 1 _ rfl rfl))) (fun _ _ => rfl) (fun _ => rfl) (fun u w hW hC (hd : After _ _ u w) ρ hρ => ?_)) ?_
              · have r55 : ρ (.tmp 55) = .bool false := (by rw [hρ]; exact hd.get 0 _ rfl rfl); clear hρ hd
                (go_simp; (try (first | exact wrap_in _ (by omega) (by omega) | omega | exact H4.out)))
              refine FSteps.cons (FStep.value (.bool true) (fun _ _ _ => wanted_none rfl) (fun _ _ => rfl) (fun _ => rfl) (fun u w hW hC (hd : After _ _ u w) ρ hρ => ?_)) ?_
              · have r52 : ρ (.tmp 52) = .bool true := (by rw [hρ]; exact hd.get 0 _ rfl rfl); have r56 : ρ (.tmp 56) = .bool true := (by rw [hρ]; exact hd.get 1 _ rfl rfl); have rc : ∀ v, ρ (.const v) = v := (by subst hρ; exact fun _ => rfl); clear hρ hd
                (go_simp; (try (first | exact wrap_in _ (by omega) (by omega) | omega | exact H4.out)))
              refine FSteps.cons (FStep.value (.bool true) (fun _ _ _ => wanted_none rfl) (fun _ _ => rfl) (fun _ => rfl) (fun u w hW hC (hd : After _ _ u w) ρ hρ => ?_)) ?_
              · have r57 : ρ (.tmp 57) = .bool true := (by rw [hρ]; exact hd.get 0 _ rfl rfl); clear hρ hd
                (go_simp; (try (first | exact wrap_in _ (by omega) (by omega) | omega | exact H4.out)))
              refine FSteps.cons (FStep.value (.agg #[.slice A N c1]) (fun u w hd => wanted_on 29 58 true rfl rfl (congrArg some (hd.get 0 _ rfl rfl))) (fun _ _ => rfl) (fun _ => rfl) (fun u w hW hC (hd : After _ _ u w) ρ hρ => ?_)) ?_
              · have r3 : ρ (.tmp 3) = .pointer (some ⟨b3, 0, none⟩) := (by subst hρ; rfl); clear hρ hd
                (go_simp; (try (first | exact wrap_in _ (by omega) (by omega) | omega | exact H4.out)))
              refine FSteps.cons (FStep.callC (.bool false) _ #[.agg #[.slice A N c1]] (fun u w hd => wanted_on 29 58 true rfl rfl (congrArg some (hd.get 1 _ rfl rfl))) (fun _ _ => rfl) (fun _ => rfl) (fun u w hW hC (hd : After _ _ u w) ρ hρ => ?_) (fun w hW => IsConvex_at A L c1 N _ w HLN.out (HR.out w (by (repeat (first | exact Ext.refl _ | assumption | apply Ext.alloc | apply Ext.drew | apply Ext.drewN | (refine Ext.trans ?_ (by assumption)))))) hn10 HCV.out)) ?_
              · have r59 : ρ (.tmp 59) = .agg #[.slice A N c1] := (by rw [hρ]; exact hd.get 0 _ rfl rfl); have rf : ∀ f, ρ (.func f) = .func (.func f) #[] #[] := (by subst hρ; exact fun _ => rfl); clear hρ hd
                (go_simp; (try (first | exact wrap_in _ (by omega) (by omega) | omega | exact H4.out)))
              refine FSteps.cons (FStep.value (.slice A2 q c2) (fun u w hd => wanted_on 29 58 true rfl rfl (congrArg some (hd.get 0 _ rfl rfl))) (fun _ _ => rfl) (fun _ => rfl) (fun u w hW hC (hd : After _ _ u w) ρ hρ => ?_)) ?_
              · have r4 : ρ (.tmp 4) = .slice A2 q c2 := (by subst hρ; rfl); clear hρ hd
                (go_simp; (try (first | exact wrap_in _ (by omega) (by omega) | omega | exact H4.out)))
              refine FSteps.cons (FStep.value (.int .i64 ((q : Int))) (fun u w hd => wanted_on 29 58 true rfl rfl (congrArg some (hd.get 1 _ rfl rfl))) (fun _ _ => rfl) (fun _ => rfl) (fun u w hW hC (hd : After _ _ u w) ρ hρ => ?_)) ?_
              · have r61 : ρ (.tmp 61) = .slice A2 q c2 := (by rw [hρ]; exact hd.get 0 _ rfl rfl); clear hρ hd
                (go_simp; (try (first | exact wrap_in _ (by omega) (by omega) | omega | exact H4.out)))
              refine FSteps.cons (FStep.value (.bool false) (fun u w hd => wanted_on 29 58 true rfl rfl (congrArg some (hd.get 1 _ rfl rfl))) (fun _ _ => rfl) (fun _ => rfl) (fun u w hW hC (hd : After _ _ u w) ρ hρ => ?_)) ?_
              · have r62 : ρ (.tmp 62) = .int .i64 ((q : Int)) := (by rw [hρ]; exact hd.get 0 _ rfl rfl); have rc : ∀ v, ρ (.const v) = v := (by subst hρ; exact fun _ => rfl); clear hρ hd
                (go_simp; (try (first | exact wrap_in _ (by omega) (by omega) | omega | exact H4.out)))
              refine FSteps.cons (FStep.value (.bool true) (fun u w hd => wanted_on 29 58 true rfl rfl (congrArg some (hd.get 2 _ rfl rfl))) (fun _ _ => rfl) (fun _ => rfl) (fun u w hW hC (hd : After _ _ u w) ρ hρ => ?_)) ?_
              · have r60 : ρ (.tmp 60) = .bool false := (by rw [hρ]; exact hd.get 0 _ rfl rfl); have r63 : ρ (.tmp 63) = .bool false := (by rw [hρ]; exact hd.get 1 _ rfl rfl); clear hρ hd
                (go_simp; (try (first | exact wrap_in _ (by omega) (by omega) | omega | exact H4.out)))
              refine FSteps.cons (FStep.value (.bool true) (fun _ _ _ => wanted_none rfl) (fun _ _ => rfl) (fun _ => rfl) (fun u w hW hC (hd : After _ _ u w) ρ hρ => ?_)) ?_
              · have r58 : ρ (.tmp 58) = .bool true := (by rw [hρ]; exact hd.get 0 _ rfl rfl); have r64 : ρ (.tmp 64) = .bool true := (by rw [hρ]; exact hd.get 1 _ rfl rfl); have rc : ∀ v, ρ (.const v) = v := (by subst hρ; exact fun _ => rfl); clear hρ hd
                (go_simp; (try (first | exact wrap_in _ (by omega) (by omega) | omega | exact H4.out)))
              refine FSteps.cons (FStep.value (.bool true) (fun _ _ _ => wanted_none rfl) (fun _ _ => rfl) (fun _ => rfl) (fun u w hW hC (hd : After _ _ u w) ρ hρ => ?_)) ?_
              · have r65 : ρ (.tmp 65) = .bool true := (by rw [hρ]; exact hd.get 0 _ rfl rfl); clear hρ hd
                (go_simp; (try (first | exact wrap_in _ (by omega) (by omega) | omega | exact H4.out)))
              refine FSteps.cons (FStep.value (.agg #[.slice A N c1]) (fun u w hd => wanted_on 37 66 true rfl rfl (congrArg some (hd.get 0 _ rfl rfl))) (fun _ _ => rfl) (fun _ => rfl) (fun u w hW hC (hd : After _ _ u w) ρ hρ => ?_)) ?_
              · have r3 : ρ (.tmp 3) = .pointer (some ⟨b3, 0, none⟩) := (by subst hρ; rfl); clear hρ hd
                (go_simp; (try (first | exact wrap_in _ (by omega) (by omega) | omega | exact H4.out)))
              refine FSteps.cons (FStep.callC (.bool true) _ #[.agg #[.slice A N c1]] (fun u w hd => wanted_on 37 66 true rfl rfl (congrArg some (hd.get 1 _ rfl rfl))) (fun _ _ => rfl) (fun _ => rfl) (fun u w hW hC (hd : After _ _ u w) ρ hρ => ?_) (fun w hW => IsRectangular_at A L c1 N _ w HLN.out (HR.out w (by (repeat (first | exact Ext.refl _ | assumption | apply Ext.alloc | apply Ext.drew | apply Ext.drewN | (refine Ext.trans ?_ (by assumption)))))) hn10 HRV.out)) ?_
              · have r67 : ρ (.tmp 67) = .agg #[.slice A N c1] := (by rw [hρ]; exact hd.get 0 _ rfl rfl); have rf : ∀ f, ρ (.func f) = .func (.func f) #[] #[] := (by subst hρ; exact fun _ => rfl); clear hρ hd
                (go_simp; (try (first | exact wrap_in _ (by omega) (by omega) | omega | exact H4.out)))
              refine FSteps.cons (FStep.value (.bool false) (fun u w hd => wanted_on 37 66 true rfl rfl (congrArg some (hd.get 1 _ rfl rfl))) (fun _ _ => rfl) (fun _ => rfl) (fun u w hW hC (hd : After _ _ u w) ρ hρ => ?_)) ?_
              · have r68 : ρ (.tmp 68) = .bool true := (by rw [hρ]; exact hd.get 0 _ rfl rfl); clear hρ hd
                (go_simp; (try (first | exact wrap_in _ (by omega) (by omega) | omega | exact H4.out)))
              refine FSteps.cons (FStep.value (.bool false) (fun u w hd => wanted_on 37 66 true rfl rfl (congrArg some (hd.get 2 _ rfl rfl))) (fun _ _ => rfl) (fun _ => rfl) (fun u w hW hC (hd : After _ _ u w) ρ hρ => ?_)) ?_
              · have r69 : ρ (.tmp 69) = .bool false := (by rw [hρ]; exact hd.get 0 _ rfl rfl); clear hρ hd
                (go_simp; (try (first | exact wrap_in _ (by omega) (by omega) | omega | exact H4.out)))
              refine FSteps.cons (FStep.value (.agg #[.slice A N c1]) (fun u w hd => wanted_on 41 70 false rfl rfl (congrArg some (hd.get 0 _ rfl rfl))) (fun _ _ => rfl) (fun _ => rfl) (fun u w hW hC (hd : After _ _ u w) ρ hρ => ?_)) ?_
              · have r3 : ρ (.tmp 3) = .pointer (some ⟨b3, 0, none⟩) := (by subst hρ; rfl); clear hρ hd
                (go_simp; (try (first | exact wrap_in _ (by omega) (by omega) | omega | exact H4.out)))
              refine FSteps.cons (FStep.callC (.int .i64 ((N : Int) - 2 * (q : Int))) _ #[.agg #[.slice A N c1]] (fun u w hd => wanted_on 41 70 false rfl rfl (congrArg some (hd.get 1 _ rfl rfl))) (fun _ _ => rfl) (fun _ => rfl) (fun u w hW hC (hd : After _ _ u w) ρ hρ => ?_) (fun w hW => TurnSum_at A L c1 N _ w HLN.out (HR.out w (by (repeat (first | exact Ext.refl _ | assumption | apply Ext.alloc | apply Ext.drew | apply Ext.drewN | (refine Ext.trans ?_ (by assumption)))))) hn10 HTS.out)) ?_
              · have r71 : ρ (.tmp 71) = .agg #[.slice A N c1] := (by rw [hρ]; exact hd.get 0 _ rfl rfl); have rf : ∀ f, ρ (.func f) = .func (.func f) #[] #[] := (by subst hρ; exact fun _ => rfl); clear hρ hd
                (go_simp; (try (first | exact wrap_in _ (by omega) (by omega) | omega | exact H4.out)))
              refine FSteps.cons (FStep.value (.bool true) (fun u w hd => wanted_on 41 70 false rfl rfl (congrArg some (hd.get 1 _ rfl rfl))) (fun _ _ => rfl) (fun _ => rfl) (fun u w hW hC (hd : After _ _ u w) ρ hρ => ?_)) ?_
              · have r72 : ρ (.tmp 72) = .int .i64 ((N : Int) - 2 * (q : Int)) := (by rw [hρ]; exact hd.get 0 _ rfl rfl); have rc : ∀ v, ρ (.const v) = v := (by subst hρ; exact fun _ => rfl); clear hρ hd
                (go_simp; (try (first | exact wrap_in _ (by omega) (by omega) | omega | exact H4.out)))
              refine FSteps.cons (FStep.value (.bool true) (fun u w hd => wanted_on 37 66 true rfl rfl (congrArg some (hd.get 2 _ rfl rfl))) (fun _ _ => rfl) (fun _ => rfl) (fun u w hW hC (hd : After _ _ u w) ρ hρ => ?_)) ?_
              · have r70 : ρ (.tmp 70) = .bool false := (by rw [hρ]; exact hd.get 0 _ rfl rfl); have r73 : ρ (.tmp 73) = .bool true := (by rw [hρ]; exact hd.get 1 _ rfl rfl); have rc : ∀ v, ρ (.const v) = v := (by subst hρ; exact fun _ => rfl); clear hρ hd
                (go_simp; (try (first | exact wrap_in _ (by omega) (by omega) | omega | exact H4.out)))
              refine FSteps.cons (FStep.value (.bool true) (fun _ _ _ => wanted_none rfl) (fun _ _ => rfl) (fun _ => rfl) (fun u w hW hC (hd : After _ _ u w) ρ hρ => ?_)) ?_
              · have r66 : ρ (.tmp 66) = .bool true := (by rw [hρ]; exact hd.get 0 _ rfl rfl); have r74 : ρ (.tmp 74) = .bool true := (by rw [hρ]; exact hd.get 1 _ rfl rfl); have rc : ∀ v, ρ (.const v) = v := (by subst hρ; exact fun _ => rfl); clear hρ hd
                (go_simp; (try (first | exact wrap_in _ (by omega) (by omega) | omega | exact H4.out)))
              refine FSteps.cons (FStep.value (.bool true) (fun _ _ _ => wanted_none rfl) (fun _ _ => rfl) (fun _ => rfl) (fun u w hW hC (hd : After _ _ u w) ρ hρ => ?_)) ?_
              · have r75 : ρ (.tmp 75) = .bool true := (by rw [hρ]; exact hd.get 0 _ rfl rfl); clear hρ hd
                (go_simp; (try (first | exact wrap_in _ (by omega) (by omega) | omega | exact H4.out)))
              exact FSteps.nil
            case hV3 => (simp only [List.forall_mem_cons]; simp [stable_is])
            case fin3 =>
              intro u w2 hW2 hC2 hd
              have e47 : u 47 = .bool true := AllV.get _ 0 47 u w2 _ hd rfl
              clear hd
              refine then_normal ?_
              go_step
              refine wp_ret ?_
              refine bodyPost_ret (results_tmp rfl _ _ _) rfl ?_
              exact ⟨congrArg Ending.returned e47, (HE.out.trans hW2).below⟩
        · have HCV := hide (HCV0.out.trans hcv)
          cases rv
          · go_wp2
            refine wp_flow (by kernel_rfl) (by kernel_rfl) (fun u => ⟨#[_, _, u 47, _, _, _, _, _, _, _, _, _, _, _, _, _, _, _, _, _, _, _, _, _, _, _, _, _, _, u 0, u 1, u 2, u 3, u 4, u 5, u 6, u 7, u 8, u 9, u 10, u 11, u 12, u 13, u 14, u 15, u 16, u 17, u 18, u 19, u 20, u 21, u 22, u 23, u 24, u 25, u 26, u 27, u 28, u 29, u 30, u 31, u 32, u 33, u 34, u 35, u 36, u 37, u 38, u 39, u 40, u 41, u 42, u 43, u 44, u 45, u 46], _⟩) (fun i => List.getD [_, _, _, _, _, _, _, _, _, _, _, _, _, _, _, _, _, _, _, _, _, _, _, _, _, _, _, _, _, _, _, _, _, _, _, _, _, _, _, _, _, _, _, _, _, _, _, _] i undef) [is (.pointer (some ⟨b3, 0, none⟩)), is (.slice A N c1), is (.int .i64 ((N : Int))), is (.slice A2 q c2), is (.int .i64 ((q : Int))), is (.int .i64 ((N : Int) - (q : Int))), is (.bool true), is (.bool true), is (.agg #[.slice A N c1]), is (.int .i64 ((N : Int) - 2 * (q : Int))), is (.pointer (some ⟨b3, 0, none⟩)), is (.slice A N c1), is (.int .i64 ((N : Int))), is (.slice A2 q c2), is (.int .i64 ((q : Int))), is (.int .i64 (2 * (q : Int))), is (.int .i64 ((N : Int) - 2 * (q : Int))), is (.bool true), is (.bool true), is (.bool true), is (.int .i64 ((lw : Int))), is (.bool true), is (.bool true), is (.bool true), is (.agg #[.slice A N c1]), is (.int .i64 ((lw : Int))), is (.bool false), is (.bool true), is (.bool true), is (.bool true), is (.agg #[.slice A N c1]), is (.bool true), is (.slice A2 q c2), is (.int .i64 ((q : Int))), is (.bool true), is (.bool true), is (.bool true), is (.bool true), is (.agg #[.slice A N c1]), is (.bool false), is (.bool true), is (.bool true), is (undef), is (undef), is (undef), is (.bool true), is (.bool true), is (.bool true)] (fun w' => w'.cell? ⟨b3, 0, none⟩ = some (.slice A N c1) ∧ b3 < w'.heap.size) _ rfl ?hC4 ?hs4 ?hV4 ?fin4
            case hC4 => exact fun w' hx => HB.out w' (by (repeat (first | exact Ext.refl _ | assumption | apply Ext.alloc | apply Ext.drew | apply Ext.drewN | (refine Ext.trans ?_ (by assumption)))))
            case hs4 =>
              refine FSteps.cons (FStep.value (.pointer (some ⟨b3, 0, none⟩)) (fun _ _ _ => wanted_none rfl) (fun _ _ => rfl) (fun _ => rfl) (fun u w hW hC (hd : After _ _ u w) ρ hρ => ?_)) ?_
              · have r3 : ρ (.tmp 3) = .pointer (some ⟨b3, 0, none⟩) := (by subst hρ; rfl); clear hρ hd
                (go_simp; (try (first | exact wrap_in _ (by omega) (by omega) | omega | exact H4.out)))
              refine FSteps.cons (FStep.value (.slice A N c1) (fun _ _ _ => wanted_none rfl) (fun _ _ => rfl) (fun _ => rfl) (fun u w hW hC (hd : After _ _ u w) ρ hρ => ?_)) ?_
              · have r29 : ρ (.tmp 29) = .pointer (some ⟨b3, 0, none⟩) := (by rw [hρ]; exact hd.get 0 _ rfl rfl); clear hρ hd
                (go_simp; (try (first | exact wrap_in _ (by omega) (by omega) | omega | exact H4.out)))
              refine FSteps.cons (FStep.value (.int .i64 ((N : Int))) (fun _ _ _ => wanted_none rfl) (fun _ _ => rfl) (fun _ => rfl) (fun u w hW hC (hd : After _ _ u w) ρ hρ => ?_)) ?_
              · have r30 : ρ (.tmp 30) = .slice A N c1 := (by rw [hρ]; exact hd.get 0 _ rfl rfl); clear hρ hd
                (go_simp; (try (first | exact wrap_in _ (by omega) (by omega) | omega | exact H4.out)))
              refine FSteps.cons (FStep.value (.slice A2 q c2) (fun _ _ _ => wanted_none rfl) (fun _ _ => rfl) (fun _ => rfl) (fun u w hW hC (hd : After _ _ u w) ρ hρ => ?_)) ?_
              · have r4 : ρ (.tmp 4) = .slice A2 q c2 := (by subst hρ; rfl); clear hρ hd
                (go_simp; (try (first | exact wrap_in _ (by omega) (by omega) | omega | exact H4.out)))
              refine FSteps.cons (FStep.value (.int .i64 ((q : Int))) (fun _ _ _ => wanted_none rfl) (fun _ _ => rfl) (fun _ => rfl) (fun u w hW hC (hd : After _ _ u w) ρ hρ => ?_)) ?_
              · have r32 : ρ (.tmp 32) = .slice A2 q c2 := (by rw [hρ]; exact hd.get 0 _ rfl rfl); clear hρ hd
                (go_simp; (try (first | exact wrap_in _ (by omega) (by omega) | omega | exact H4.out)))
              refine FSteps.cons (FStep.value (.int .i64 ((N : Int) - (q : Int))) (fun _ _ _ => wanted_none rfl) (fun _ _ => rfl) (fun _ => rfl) (fun u w hW hC (hd : After _ _ u w) ρ hρ => ?_)) ?_
              · have r31 : ρ (.tmp 31) = .int .i64 ((N : Int)) := (by rw [hρ]; exact hd.get 0 _ rfl rfl); have r33 : ρ (.tmp 33) = .int .i64 ((q : Int)) := (by rw [hρ]; exact hd.get 1 _ rfl rfl); clear hρ hd
                (go_simp; (try (first | exact wrap_in _ (by omega) (by omega) | omega | exact H4.out)))
              refine FSteps.cons (FStep.value (.bool true) (fun _ _ _ => wanted_none rfl) (fun _ _ => rfl) (fun _ => rfl) (fun u w hW hC (hd : After _ _ u w) ρ hρ => ?_)) ?_
              · have r34 : ρ (.tmp 34) = .int .i64 ((N : Int) - (q : Int)) := (by rw [hρ]; exact hd.get 0 _ rfl rfl); have rc : ∀ v, ρ (.const v) = v := (by subst hρ; exact fun _ => rfl); clear hρ hd
                (go_simp; (try (first | exact wrap_in _ (by omega) (by omega) | omega | exact H4.out)))
              refine FSteps.cons (FStep.value (.bool true) (fun _ _ _ => wanted_none rfl) (fun _ _ => rfl) (fun _ => rfl) (fun u w hW hC (hd : After _ _ u w) ρ hρ => ?_)) ?_
              · have r35 : ρ (.tmp 35) = .bool true := (by rw [hρ]; exact hd.get 0 _ rfl rfl); clear hρ hd
                (go_simp; (try (first | exact wrap_in _ (by omega) (by omega) | omega | exact H4.out)))
              refine FSteps.cons (FStep.value (.agg #[.slice A N c1]) (fun u w hd => wanted_on 7 36 true rfl rfl (congrArg some (hd.get 0 _ rfl rfl))) (fun _ _ => rfl) (fun _ => rfl) (fun u w hW hC (hd : After _ _ u w) ρ hρ => ?_)) ?_
              · have r3 : ρ (.tmp 3) = .pointer (some ⟨b3, 0, none⟩) := (by subst hρ; rfl); clear hρ hd
                (go_simp; (try (first | exact wrap_in _ (by omega) (by omega) | omega | exact H4.out)))
              refine FSteps.cons (FStep.callC (.int .i64 ((N : Int) - 2 * (q : Int))) _ #[.agg #[.slice A N c1]] (fun u w hd => wanted_on 7 36 true rfl rfl (congrArg some (hd.get 1 _ rfl rfl))) (fun _ _ => rfl) (fun _ => rfl) (fun u w hW hC (hd : After _ _ u w) ρ hρ => ?_) (fun w hW => TurnSum_at A L c1 N _ w HLN.out (HR.out w (by (repeat (first | exact Ext.refl _ | assumption | apply Ext.alloc | apply Ext.drew | apply Ext.drewN | (refine Ext.trans ?_ (by assumption)))))) hn10 HTS.out)) ?_
              · have r37 : ρ (.tmp 37) = .agg #[.slice A N c1] := (by rw [hρ]; exact hd.get 0 _ rfl rfl); have rf : ∀ f, ρ (.func f) = .func (.func f) #[] #[] := (by subst hρ; exact fun _ => rfl); clear hρ hd
                (go_simp; (try (first | exact wrap_in _ (by omega) (by omega) | omega | exact H4.out)))
              refine FSteps.cons (FStep.value (.pointer (some ⟨b3, 0, none⟩)) (fun u w hd => wanted_on 7 36 true rfl rfl (congrArg some (hd.get 0 _ rfl rfl))) (fun _ _ => rfl) (fun _ => rfl) (fun u w hW hC (hd : After _ _ u w) ρ hρ => ?_)) ?_
              · have r3 : ρ (.tmp 3) = .pointer (some ⟨b3, 0, none⟩) := (by subst hρ; rfl); clear hρ hd
                (go_simp; (try (first | exact wrap_in _ (by omega) (by omega) | omega | exact H4.out)))
              refine FSteps.cons (FStep.value (.slice A N c1) (fun u w hd => wanted_on 7 36 true rfl rfl (congrArg some (hd.get 1 _ rfl rfl))) (fun _ _ => rfl) (fun _ => rfl) (fun u w hW hC (hd : After _ _ u w) ρ hρ => ?_)) ?_
              · have r39 : ρ (.tmp 39) = .pointer (some ⟨b3, 0, none⟩) := (by rw [hρ]; exact hd.get 0 _ rfl rfl); clear hρ hd
                (go_simp; (try (first | exact wrap_in _ (by omega) (by omega) | omega | exact H4.out)))
              refine FSteps.cons (FStep.value (.int .i64 ((N : Int))) (fun u w hd => wanted_on 7 36 true rfl rfl (congrArg some (hd.get 1 _ rfl rfl))) (fun _ _ => rfl) (fun _ => rfl) (fun u w hW hC (hd : After _ _ u w) ρ hρ => ?_)) ?_
              · have r40 : ρ (.tmp 40) = .slice A N c1 := (by rw [hρ]; exact hd.get 0 _ rfl rfl); clear hρ hd
                (go_simp; (try (first | exact wrap_in _ (by omega) (by omega) | omega | exact H4.out)))
              refine FSteps.cons (FStep.value (.slice A2 q c2) (fun u w hd => wanted_on 7 36 true rfl rfl (congrArg some (hd.get 0 _ rfl rfl))) (fun _ _ => rfl) (fun _ => rfl) (fun u w hW hC (hd : After _ _ u w) ρ hρ => ?_)) ?_
              · have r4 : ρ (.tmp 4) = .slice A2 q c2 := (by subst hρ; rfl); clear hρ hd
                (go_simp; (try (first | exact wrap_in _ (by omega) (by omega) | omega | exact H4.out)))
              refine FSteps.cons (FStep.value (.int .i64 ((q : Int))) (fun u w hd => wanted_on 7 36 true rfl rfl (congrArg some (hd.get 1 _ rfl rfl))) (fun _ _ => rfl) (fun _ => rfl) (fun u w hW hC (hd : After _ _ u w) ρ hρ => ?_)) ?_
              · have r42 : ρ (.tmp 42) = .slice A2 q c2 := (by rw [hρ]; exact hd.get 0 _ rfl rfl); clear hρ hd
                (go_simp; (try (first | exact wrap_in _ (by omega) (by omega) | omega | exact H4.out)))
              refine FSteps.cons (FStep.value (.int .i64 (2 * (q : Int))) (fun u w hd => wanted_on 7 36 true rfl rfl (congrArg some (hd.get 1 _ rfl rfl))) (fun _ _ => rfl) (fun _ => rfl) (fun u w hW hC (hd : After _ _ u w) ρ hρ => ?_)) ?_
              · have r43 : ρ (.tmp 43) = .int .i64 ((q : Int)) := (by rw [hρ]; exact hd.get 0 _ rfl rfl); have rc : ∀ v, ρ (.const v) = v := (by subst hρ; exact fun _ => rfl); clear hρ hd
                (go_simp; (try (first | exact wrap_in _ (by omega) (by omega) | omega | exact H4.out)))
              refine FSteps.cons (FStep.value (.int .i64 ((N : Int) - 2 * (q : Int))) (fun u w hd => wanted_on 7 36 true rfl rfl (congrArg some (hd.get 2 _ rfl rfl))) (fun _ _ => rfl) (fun _ => rfl) (fun u w hW hC (hd : After _ _ u w) ρ hρ => ?_)) ?_
              · have r41 : ρ (.tmp 41) = .int .i64 ((N : Int)) := (by rw [hρ]; exact hd.get 0 _ rfl rfl); have r44 : ρ (.tmp 44) = .int .i64 (2 * (q : Int)) := (by rw [hρ]; exact hd.get 1 _ rfl rfl); clear hρ hd
                (go_simp; (try (first | exact wrap_in _ (by omega) (by omega) | omega | exact H4.out)))
              refine FSteps.cons (FStep.value (.bool true) (fun u w hd => wanted_on 7 36 true rfl rfl (congrArg some (hd.get 2 _ rfl rfl))) (fun _ _ => rfl) (fun _ => rfl) (fun u w hW hC (hd : After _ _ u w) ρ hρ => ?_)) ?_
              · have r38 : ρ (.tmp 38) = .int .i64 ((N : Int) - 2 * (q : Int)) := (by rw [hρ]; exact hd.get 0 _ rfl rfl); have r45 : ρ (.tmp 45) = .int .i64 ((N : Int) - 2 * (q : Int)) := (by rw [hρ]; exact hd.get 1 _ rfl rfl); clear hρ hd
                (go_simp; (try (first | exact wrap_in _ (by omega) (by omega) | omega | exact H4.out)))
              refine FSteps.cons (FStep.value (.bool true) (fun _ _ _ => wanted_none rfl) (fun _ _ => rfl) (fun _ => rfl) (fun u w hW hC (hd : After _ _ u w) ρ hρ => ?_)) ?_
              · have r36 : ρ (.tmp 36) = .bool true := (by rw [hρ]; exact hd.get 0 _ rfl rfl); have r46 : ρ (.tmp 46) = .bool true := (by rw [hρ]; exact hd.get 1 _ rfl rfl); have rc : ∀ v, ρ (.const v) = v := (by subst hρ; exact fun _ => rfl); clear hρ hd
                (go_simp; (try (first | exact wrap_in _ (by omega) (by omega) | omega | exact H4.out)))
              refine FSteps.cons (FStep.value (.bool true) (fun _ _ _ => wanted_none rfl) (fun _ _ => rfl) (fun _ => rfl) (fun u w hW hC (hd : After _ _ u w) ρ hρ => ?_)) ?_
              · have r47 : ρ (.tmp 47) = .bool true := (by rw [hρ]; exact hd.get 0 _ rfl rfl); clear hρ hd
                (go_simp; (try (first | exact wrap_in _ (by omega) (by omega) | omega | exact H4.out)))
              refine FSteps.cons (FStep.value (.int .i64 ((lw : Int))) (fun u w hd => wanted_on 19 48 true rfl rfl (congrArg some (hd.get 0 _ rfl rfl))) (fun _ _ => rfl) (fun _ => rfl) (fun u w hW hC (hd : After _ _ u w) ρ hρ => ?_)) ?_
              · have r5 : ρ (.tmp 5) = .int .i64 ((lw : Int)) := (by subst hρ; rfl); clear hρ hd
                (go_simp; (try (first | exact wrap_in _ (by omega) (by omega) | omega | exact H4.out)))
              refine FSteps.cons (FStep.value (.bool true) (fun u w hd => wanted_on 19 48 true rfl rfl (congrArg some (hd.get 1 _ rfl rfl))) (fun _ _ => rfl) (fun _ => rfl) (fun u w hW hC (hd : After _ _ u w) ρ hρ => ?_)) ?_
              · have r49 : ρ (.tmp 49) = .int .i64 ((lw : Int)) := (by rw [hρ]; exact hd.get 0 _ rfl rfl); have rc : ∀ v, ρ (.const v) = v := (by subst hρ; exact fun _ => rfl); clear hρ hd
                (go_simp; (try (first | exact wrap_in _ (by omega) (by omega) | omega | exact H4.out)))
              refine FSteps.cons (FStep.value (.bool true) (fun _ _ _ => wanted_none rfl) (fun _ _ => rfl) (fun _ => rfl) (fun u w hW hC (hd : After _ _ u w) ρ hρ => ?_)) ?_
              · have r48 : ρ (.tmp 48) = .bool true := (by rw [hρ]; exact hd.get 0 _ rfl rfl); have r50 : ρ (.tmp 50) = .bool true := (by rw [hρ]; exact hd.get 1 _ rfl rfl); have rc : ∀ v, ρ (.const v) = v := (by subst hρ; exact fun _ => rfl); clear hρ hd
                (go_simp; (try (first | exact wrap_in _ (by omega) (by omega) | omega | exact H4.out)))
              refine FSteps.cons (FStep.value (.bool true) (fun _ _ _ => wanted_none rfl) (fun _ _ => rfl) (fun _ => rfl) (fun u w hW hC (hd : After _ _ u w) ρ hρ => ?_)) ?_
              · have r51 : ρ (.tmp 51) = .bool true := (by rw [hρ]; exact hd.get 0 _ rfl rfl); clear hρ hd
                (go_simp; (try (first | exact wrap_in _ (by omega) (by omega) | omega | exact H4.out)))
              refine FSteps.cons (FStep.value (.agg #[.slice A N c1]) (fun u w hd => wanted_on 23 52 true rfl rfl (congrArg some (hd.get 0 _ rfl rfl))) (fun _ _ => rfl) (fun _ => rfl) (fun u w hW hC (hd : After _ _ u w) ρ hρ => ?_)) ?_
              · have r3 : ρ (.tmp 3) = .pointer (some ⟨b3, 0, none⟩) := (by subst hρ; rfl); clear hρ hd
                (go_simp; (try (first | exact wrap_in _ (by omega) (by omega) | omega | exact H4.out)))
              refine FSteps.cons (FStep.value (.int .i64 ((lw : Int))) (fun u w hd => wanted_on 23 52 true rfl rfl (congrArg some (hd.get 0 _ rfl rfl))) (fun _ _ => rfl) (fun _ => rfl) (fun u w hW hC (hd : After _ _ u w) ρ hρ => ?_)) ?_
              · have r5 : ρ (.tmp 5) = .int .i64 ((lw : Int)) := (by subst hρ; rfl); clear hρ hd
                (go_simp; (try (first | exact wrap_in _ (by omega) (by omega) | omega | exact H4.out)))
              refine FSteps.cons (FStep.callC (.bool false) _ #[.agg #[.slice A N c1], .int .i64 ((lw : Int))] (fun u w hd => wanted_on 23 52 true rfl rfl (congrArg some (hd.get 2 _ rfl rfl))) (fun _ _ => rfl) (fun _ => rfl) (fun u w hW hC (hd : After _ _ u w) ρ hρ => ?_) (fun w hW => IsReflex_at A L c1 N lw _ w HLN.out (HR.out w (by (repeat (first | exact Ext.refl _ | assumption | apply Ext.alloc | apply Ext.drew | apply Ext.drewN | (refine Ext.trans ?_ (by assumption)))))) hn10 HIR.out)) ?_
              · have r53 : ρ (.tmp 53) = .agg #[.slice A N c1] := (by rw [hρ]; exact hd.get 0 _ rfl rfl); have r54 : ρ (.tmp 54) = .int .i64 ((lw : Int)) := (by rw [hρ]; exact hd.get 1 _ rfl rfl); have rf : ∀ f, ρ (.func f) = .func (.func f) #[] #[] := (by subst hρ; exact fun _ => rfl); clear hρ hd
                (go_simp; (try (first | exact wrap_in _ (by omega) (by omega) | omega | exact H4.out)))
              refine FSteps.cons (FStep.value (.bool true) (fun u w hd => wanted_on 23 52 true rfl rfl (congrArg some (hd.get 1 _ rfl rfl))) (fun _ _ => rfl) (fun _ => rfl) (fun u w hW hC (hd : After _ _ u w) ρ hρ => ?_)) ?_
              · have r55 : ρ (.tmp 55) = .bool false := (by rw [hρ]; exact hd.get 0 _ rfl rfl); clear hρ hd
                (go_simp; (try (first | exact wrap_in _ (by omega) (by omega) | omega | exact H4.out)))
              refine FSteps.cons (FStep.value (.bool true) (fun _ _ _ => wanted_none rfl) (fun _ _ => rfl) (fun _ => rfl) (fun u w hW hC (hd : After _ _ u w) ρ hρ => ?_)) ?_
              · have r52 : ρ (.tmp 52) = .bool true := (by rw [hρ]; exact hd.get 0 _ rfl rfl); have r56 : ρ (.tmp 56) = .bool true := (by rw [hρ]; exact hd.get 1 _ rfl rfl); have rc : ∀ v, ρ (.const v) = v := (by subst hρ; exact fun _ => rfl); clear hρ hd
                (go_simp; (try (first | exact wrap_in _ (by omega) (by omega) | omega | exact H4.out)))
              refine FSteps.cons (FStep.value (.bool true) (fun _ _ _ => wanted_none rfl) (fun _ _ => rfl) (fun _ => rfl) (fun u w hW hC (hd : After _ _ u w) ρ hρ => ?_)) ?_
              · have r57 : ρ (.tmp 57) = .bool true := (by rw [hρ]; exact hd.get 0 _ rfl rfl); clear hρ hd
                (go_simp; (try (first | exact wrap_in _ (by omega) (by omega) | omega | exact H4.out)))
              refine FSteps.cons (FStep.value (.agg #[.slice A N c1]) (fun u w hd => wanted_on 29 58 true rfl rfl (congrArg some (hd.get 0 _ rfl rfl))) (fun _ _ => rfl) (fun _ => rfl) (fun u w hW hC (hd : After _ _ u w) ρ hρ => ?_)) ?_
              · have r3 : ρ (.tmp 3) = .pointer (some ⟨b3, 0, none⟩) := (by subst hρ; rfl); clear hρ hd
                (go_simp; (try (first | exact wrap_in _ (by omega) (by omega) | omega | exact H4.out)))
              refine FSteps.cons (FStep.callC (.bool true) _ #[.agg #[.slice A N c1]] (fun u w hd => wanted_on 29 58 true rfl rfl (congrArg some (hd.get 1 _ rfl rfl))) (fun _ _ => rfl) (fun _ => rfl) (fun u w hW hC (hd : After _ _ u w) ρ hρ => ?_) (fun w hW => IsConvex_at A L c1 N _ w HLN.out (HR.out w (by (repeat (first | exact Ext.refl _ | assumption | apply Ext.alloc | apply Ext.drew | apply Ext.drewN | (refine Ext.trans ?_ (by assumption)))))) hn10 HCV.out)) ?_
              · have r59 : ρ (.tmp 59) = .agg #[.slice A N c1] := (by rw [hρ]; exact hd.get 0 _ rfl rfl); have rf : ∀ f, ρ (.func f) = .func (.func f) #[] #[] := (by subst hρ; exact fun _ => rfl); clear hρ hd
                (go_simp; (try (first | exact wrap_in _ (by omega) (by omega) | omega | exact H4.out)))
              refine FSteps.cons (FStep.value (.slice A2 q c2) (fun u w hd => wanted_on 29 58 true rfl rfl (congrArg some (hd.get 0 _ rfl rfl))) (fun _ _ => rfl) (fun _ => rfl) (fun u w hW hC (hd : After _ _ u w) ρ hρ => ?_)) ?_
              · have r4 : ρ (.tmp 4) = .slice A2 q c2 := (by subst hρ; rfl); clear hρ hd
                (go_simp; (try (first | exact wrap_in _ (by omega) (by omega) | omega | exact H4.out)))
              refine FSteps.cons (FStep.value (.int .i64 ((q : Int))) (fun u w hd => wanted_on 29 58 true rfl rfl (congrArg some (hd.get 1 _ rfl rfl))) (fun _ _ => rfl) (fun _ => rfl) (fun u w hW hC (hd : After _ _ u w) ρ hρ => ?_)) ?_
              · have r61 : ρ (.tmp 61) = .slice A2 q c2 := (by rw [hρ]; exact hd.get 0 _ rfl rfl); clear hρ hd
                (go_simp; (try (first | exact wrap_in _ (by omega) (by omega) | omega | exact H4.out)))
              refine FSteps.cons (FStep.value (.bool true) (fun u w hd => wanted_on 29 58 true rfl rfl (congrArg some (hd.get 1 _ rfl rfl))) (fun _ _ => rfl) (fun _ => rfl) (fun u w hW hC (hd : After _ _ u w) ρ hρ => ?_)) ?_
              · have r62 : ρ (.tmp 62) = .int .i64 ((q : Int)) := (by rw [hρ]; exact hd.get 0 _ rfl rfl); have rc : ∀ v, ρ (.const v) = v := (by subst hρ; exact fun _ => rfl); clear hρ hd
                (go_simp; (try (first | exact wrap_in _ (by omega) (by omega) | omega | exact H4.out)))
              refine FSteps.cons (FStep.value (.bool true) (fun u w hd => wanted_on 29 58 true rfl rfl (congrArg some (hd.get 2 _ rfl rfl))) (fun _ _ => rfl) (fun _ => rfl) (fun u w hW hC (hd : After _ _ u w) ρ hρ => ?_)) ?_
              · have r60 : ρ (.tmp 60) = .bool true := (by rw [hρ]; exact hd.get 0 _ rfl rfl); have r63 : ρ (.tmp 63) = .bool true := (by rw [hρ]; exact hd.get 1 _ rfl rfl); clear hρ hd
                (go_simp; (try (first | exact wrap_in _ (by omega) (by omega) | omega | exact H4.out)))
              refine FSteps.cons (FStep.value (.bool true) (fun _ _ _ => wanted_none rfl) (fun _ _ => rfl) (fun _ => rfl) (fun u w hW hC (hd : After _ _ u w) ρ hρ => ?_)) ?_
              · have r58 : ρ (.tmp 58) = .bool true := (by rw [hρ]; exact hd.get 0 _ rfl rfl); have r64 : ρ (.tmp 64) = .bool true := (by rw [hρ]; exact hd.get 1 _ rfl rfl); have rc : ∀ v, ρ (.const v) = v := (by subst hρ; exact fun _ => rfl); clear hρ hd
                (go_simp; (try (first | exact wrap_in _ (by omega) (by omega) | omega | exact H4.out)))
              refine FSteps.cons (FStep.value (.bool true) (fun _ _ _ => wanted_none rfl) (fun _ _ => rfl) (fun _ => rfl) (fun u w hW hC (hd : After _ _ u w) ρ hρ => ?_)) ?_
              · have r65 : ρ (.tmp 65) = .bool true := (by rw [hρ]; exact hd.get 0 _ rfl rfl); clear hρ hd
                (go_simp; (try (first | exact wrap_in _ (by omega) (by omega) | omega | exact H4.out)))
              refine FSteps.cons (FStep.value (.agg #[.slice A N c1]) (fun u w hd => wanted_on 37 66 true rfl rfl (congrArg some (hd.get 0 _ rfl rfl))) (fun _ _ => rfl) (fun _ => rfl) (fun u w hW hC (hd : After _ _ u w) ρ hρ => ?_)) ?_
              · have r3 : ρ (.tmp 3) = .pointer (some ⟨b3, 0, none⟩) := (by subst hρ; rfl); clear hρ hd
                (go_simp; (try (first | exact wrap_in _ (by omega) (by omega) | omega | exact H4.out)))
              refine FSteps.cons (FStep.callC (.bool false) _ #[.agg #[.slice A N c1]] (fun u w hd => wanted_on 37 66 true rfl rfl (congrArg some (hd.get 1 _ rfl rfl))) (fun _ _ => rfl) (fun _ => rfl) (fun u w hW hC (hd : After _ _ u w) ρ hρ => ?_) (fun w hW => IsRectangular_at A L c1 N _ w HLN.out (HR.out w (by (repeat (first | exact Ext.refl _ | assumption | apply Ext.alloc | apply Ext.drew | apply Ext.drewN | (refine Ext.trans ?_ (by assumption)))))) hn10 HRV.out)) ?_
              · have r67 : ρ (.tmp 67) = .agg #[.slice A N c1] := (by rw [hρ]; exact hd.get 0 _ rfl rfl); have rf : ∀ f, ρ (.func f) = .func (.func f) #[] #[] := (by subst hρ; exact fun _ => rfl); clear hρ hd
                (go_simp; (try (first | exact wrap_in _ (by omega) (by omega) | omega | exact H4.out)))
              refine FSteps.cons (FStep.value (.bool true) (fun u w hd => wanted_on 37 66 true rfl rfl (congrArg some (hd.get 1 _ rfl rfl))) (fun _ _ => rfl) (fun _ => rfl) (fun u w hW hC (hd : After _ _ u w) ρ hρ => ?_)) ?_
              · have r68 : ρ (.tmp 68) = .bool false := (by rw [hρ]; exact hd.get 0 _ rfl rfl); clear hρ hd
                (go_simp; (try (first | exact wrap_in _ (by omega) (by omega) | omega | exact H4.out)))
              refine FSteps.cons (FStep.value (.bool true) (fun u w hd => wanted_on 37 66 true rfl rfl (congrArg some (hd.get 2 _ rfl rfl))) (fun _ _ => rfl) (fun _ => rfl) (fun u w hW hC (hd : After _ _ u w) ρ hρ => ?_)) ?_
              · have r69 : ρ (.tmp 69) = .bool true := (by rw [hρ]; exact hd.get 0 _ rfl rfl); clear hρ hd
                (go_simp; (try (first | exact wrap_in _ (by omega) (by omega) | omega | exact H4.out)))
              refine FSteps.cons (FStep.off_ 41 70 false rfl rfl (fun u w hd => .inl (congrArg some (After.get (V := vOf _) hd 0 _ rfl rfl))) (fun _ => rfl) (fun _ => rfl)) ?_
              refine FSteps.cons (FStep.off_ 41 70 false rfl rfl (fun u w hd => .inl (congrArg some (After.get (V := vOf _) hd 1 _ rfl rfl))) (fun _ => rfl) (fun _ => rfl)) ?_
              refine FSteps.cons (FStep.off_ 41 70 false rfl rfl (fun u w hd => .inl (congrArg some (After.get (V := vOf _) hd 1 _ rfl rfl))) (fun _ => rfl) (fun _ => rfl)) ?_
              refine FSteps.cons (FStep.value (.bool true) (fun u w hd => wanted_on 37 66 true rfl rfl (congrArg some (hd.get 2 _ rfl rfl))) (fun _ _ => rfl) (fun _ => rfl) (fun u w hW hC (hd : After _ _ u w) ρ hρ => ?_)) ?_
              · have r70 : ρ (.tmp 70) = .bool true := (by rw [hρ]; exact hd.get 0 _ rfl rfl); have r73 : ρ (.tmp 73) = undef := (by rw [hρ]; exact hd.get 1 _ rfl rfl); have rc : ∀ v, ρ (.const v) = v := (by subst hρ; exact fun _ => rfl); clear hρ hd
                (go_simp; (try (first | exact wrap_in _ (by omega) (by omega) | omega | exact H4.out)))
              refine FSteps.cons (FStep.value (.bool true) (fun _ _ _ => wanted_none rfl) (fun _ _ => rfl) (fun _ => rfl) (fun u w hW hC (hd : After _ _ u w) ρ hρ => ?_)) ?_
              · have r66 : ρ (.tmp 66) = .bool true := (by rw [hρ]; exact hd.get 0 _ rfl rfl); have r74 : ρ (.tmp 74) = .bool true := (by rw [hρ]; exact hd.get 1 _ rfl rfl); have rc : ∀ v, ρ (.const v) = v := (by subst hρ; exact fun _ => rfl); clear hρ hd
                (go_simp; (try (first | exact wrap_in _ (by omega) (by omega) | omega | exact H4.out)))
              refine FSteps.cons (FStep.value (.bool true) (fun _ _ _ => wanted_none rfl) (fun _ _ => rfl) (fun _ => rfl) (fun u w hW hC (hd : After _ _ u w) ρ hρ => ?_)) ?_
              · have r75 : ρ (.tmp 75) = .bool true := (by rw [hρ]; exact hd.get 0 _ rfl rfl); clear hρ hd
                (go_simp; (try (first | exact wrap_in _ (by omega) (by omega) | omega | exact H4.out)))
              exact FSteps.nil
            case hV4 => (simp only [List.forall_mem_cons]; simp [stable_is])
            case fin4 =>
              intro u w2 hW2 hC2 hd
              have e47 : u 47 = .bool true := AllV.get _ 0 47 u w2 _ hd rfl
              clear hd
              refine then_normal ?_
              go_step
              refine wp_ret ?_
              refine bodyPost_ret (results_tmp rfl _ _ _) rfl ?_
              exact ⟨congrArg Ending.returned e47, (HE.out.trans hW2).below⟩
          · have H4 := hide (show (N : Int) - 2 * (q : Int) = 4 by have := p3 rfl; omega)
            clear p3
            go_wp2
            refine wp_flow (by kernel_rfl) (by kernel_rfl) (fun u => ⟨#[_, _, u 47, _, _, _, _, _, _, _, _, _, _, _, _, _, _, _, _, _, _, _, _, _, _, _, _, _, _, u 0, u 1, u 2, u 3, u 4, u 5, u 6, u 7, u 8, u 9, u 10, u 11, u 12, u 13, u 14, u 15, u 16, u 17, u 18, u 19, u 20, u 21, u 22, u 23, u 24, u 25, u 26, u 27, u 28, u 29, u 30, u 31, u 32, u 33, u 34, u 35, u 36, u 37, u 38, u 39, u 40, u 41, u 42, u 43, u 44, u 45, u 46], _⟩) (fun i => List.getD [_, _, _, _, _, _, _, _, _, _, _, _, _, _, _, _, _, _, _, _, _, _, _, _, _, _, _, _, _, _, _, _, _, _, _, _, _, _, _, _, _, _, _, _, _, _, _, _] i undef) [is (.pointer (some ⟨b3, 0, none⟩)), is (.slice A N c1), is (.int .i64 ((N : Int))), is (.slice A2 q c2), is (.int .i64 ((q : Int))), is (.int .i64 ((N : Int) - (q : Int))), is (.bool true), is (.bool true), is (.agg #[.slice A N c1]), is (.int .i64 ((N : Int) - 2 * (q : Int))), is (.pointer (some ⟨b3, 0, none⟩)), is (.slice A N c1), is (.int .i64 ((N : Int))), is (.slice A2 q c2), is (.int .i64 ((q : Int))), is (.int .i64 (2 * (q : Int))), is (.int .i64 ((N : Int) - 2 * (q : Int))), is (.bool true), is (.bool true), is (.bool true), is (.int .i64 ((lw : Int))), is (.bool true), is (.bool true), is (.bool true), is (.agg #[.slice A N c1]), is (.int .i64 ((lw : Int))), is (.bool false), is (.bool true), is (.bool true), is (.bool true), is (.agg #[.slice A N c1]), is (.bool true), is (.slice A2 q c2), is (.int .i64 ((q : Int))), is (.bool true), is (.bool true), is (.bool true), is (.bool true), is (.agg #[.slice A N c1]), is (.bool true), is (.bool false), is (.bool false), is (.agg #[.slice A N c1]), is (.int .i64 ((N : Int) - 2 * (q : Int))), is (.bool true), is (.bool true), is (.bool true), is (.bool true)] (fun w' => w'.cell? ⟨b3, 0, none⟩ = some (.slice A N c1) ∧ b3 < w'.heap.size) _ rfl ?hC5 ?hs5 ?hV5 ?fin5
            case hC5 => exact fun w' hx => HB.out w' (by (repeat (first | exact Ext.refl _ | assumption | apply Ext.alloc | apply Ext.drew | apply Ext.drewN | (refine Ext.trans ?_ (by assumption)))))
            case hs5 =>
              refine FSteps.cons (FStep.value (.pointer (some ⟨b3, 0, none⟩)) (fun _ _ _ => wanted_none rfl) (fun _ _ => rfl) (fun _ => rfl) (fun u w hW hC (hd : After _ _ u w) ρ hρ => ?_)) ?_
              · have r3 : ρ (.tmp 3) = .pointer (some ⟨b3, 0, none⟩) := (by subst hρ; rfl); clear hρ hd
                (go_simp; (try (first | exact wrap_in _ (by omega) (by omega) | omega | exact H4.out)))
              refine FSteps.cons (FStep.value (.slice A N c1) (fun _ _ _ => wanted_none rfl) (fun _ _ => rfl) (fun _ => rfl) (fun u w hW hC (hd : After _ _ u w) ρ hρ => ?_)) ?_
              · have r29 : ρ (.tmp 29) = .pointer (some ⟨b3, 0, none⟩) := (by rw [hρ]; exact hd.get 0 _ rfl rfl); clear hρ hd
                (go_simp; (try (first | exact wrap_in _ (by omega) (by omega) | omega | exact H4.out)))
              refine FSteps.cons (FStep.value (.int .i64 ((N : Int))) (fun _ _ _ => wanted_none rfl) (fun _ _ => rfl) (fun _ => rfl) (fun u w hW hC (hd : After _ _ u w) ρ hρ => ?_)) ?_
              · have r30 : ρ (.tmp 30) = .slice A N c1 := (by rw [hρ]; exact hd.get 0 _ rfl rfl); clear hρ hd
                (go_simp; (try (first | exact wrap_in _ (by omega) (by omega) | omega | exact H4.out)))
              refine FSteps.cons (FStep.value (.slice A2 q c2) (fun _ _ _ => wanted_none rfl) (fun _ _ => rfl) (fun _ => rfl) (fun u w hW hC (hd : After _ _ u w) ρ hρ => ?_)) ?_
              · have r4 : ρ (.tmp 4) = .slice A2 q c2 := (by subst hρ; rfl); clear hρ hd
                (go_simp; (try (first | exact wrap_in _ (by omega) (by omega) | omega | exact H4.out)))
              refine FSteps.cons (FStep.value (.int .i64 ((q : Int))) (fun _ _ _ => wanted_none rfl) (fun _ _ => rfl) (fun _ => rfl) (fun u w hW hC (hd : After _ _ u w) ρ hρ => ?_)) ?_
              · have r32 : ρ (.tmp 32) = .slice A2 q c2 := (by rw [hρ]; exact hd.get 0 _ rfl rfl); clear hρ hd
                (go_simp; (try (first | exact wrap_in _ (by omega) (by omega) | omega | exact H4.out)))
              refine FSteps.cons (FStep.value (.int .i64 ((N : Int) - (q : Int))) (fun _ _ _ => wanted_none rfl) (fun _ _ => rfl) (fun _ => rfl) (fun u w hW hC (hd : After _ _ u w) ρ hρ => ?_)) ?_
              · have r31 : ρ (.tmp 31) = .int .i64 ((N : Int)) := (by rw [hρ]; exact hd.get 0 _ rfl rfl); have r33 : ρ (.tmp 33) = .int .i64 ((q : Int)) := (by rw [hρ]; exact hd.get 1 _ rfl rfl); clear hρ hd
                (go_simp; (try (first | exact wrap_in _ (by omega) (by omega) | omega | exact H4.out)))
              refine FSteps.cons (FStep.value (.bool true) (fun _ _ _ => wanted_none rfl) (fun _ _ => rfl) (fun _ => rfl) (fun u w hW hC (hd : After _ _ u w) ρ hρ => ?_)) ?_
              · have r34 : ρ (.tmp 34) = .int .i64 ((N : Int) - (q : Int)) := (by rw [hρ]; exact hd.get 0 _ rfl rfl); have rc : ∀ v, ρ (.const v) = v := (by subst hρ; exact fun _ => rfl); clear hρ hd
                (go_simp; (try (first | exact wrap_in _ (by omega) (by omega) | omega | exact H4.out)))
              refine FSteps.cons (FStep.value (.bool true) (fun _ _ _ => wanted_none rfl) (fun _ _ => rfl) (fun _ => rfl) (fun u w hW hC (hd : After _ _ u w) ρ hρ => ?_)) ?_
              · have r35 : ρ (.tmp 35) = .bool true := (by rw [hρ]; exact hd.get 0 _ rfl rfl); clear hρ hd
                (go_simp; (try (first | exact wrap_in _ (by omega) (by omega) | omega | exact H4.out)))
              refine FSteps.cons (FStep.value (.agg #[.slice A N c1]) (fun u w hd => wanted_on 7 36 true rfl rfl (congrArg some (hd.get 0 _ rfl rfl))) (fun _ _ => rfl) (fun _ => rfl) (fun u w hW hC (hd : After _ _ u w) ρ hρ => ?_)) ?_
              · have r3 : ρ (.tmp 3) = .pointer (some ⟨b3, 0, none⟩) := (by subst hρ; rfl); clear hρ hd
                (go_simp; (try (first | exact wrap_in _ (by omega) (by omega) | omega | exact H4.out)))
              refine FSteps.cons (FStep.callC (.int .i64 ((N : Int) - 2 * (q : Int))) _ #[.agg #[.slice A N c1]] (fun u w hd => wanted_on 7 36 true rfl rfl (congrArg some (hd.get 1 _ rfl rfl))) (fun _ _ => rfl) (fun _ => rfl) (fun u w hW hC (hd : After _ _ u w) ρ hρ => ?_) (fun w hW => TurnSum_at A L c1 N _ w HLN.out (HR.out w (by (repeat (first | exact Ext.refl _ | assumption | apply Ext.alloc | apply Ext.drew | apply Ext.drewN | (refine Ext.trans ?_ (by assumption)))))) hn10 HTS.out)) ?_
              · have r37 : ρ (.tmp 37) = .agg #[.slice A N c1] := (by rw [hρ]; exact hd.get 0 _ rfl rfl); have rf : ∀ f, ρ (.func f) = .func (.func f) #[] #[] := (by subst hρ; exact fun _ => rfl); clear hρ hd
                (go_simp; (try (first | exact wrap_in _ (by omega) (by omega) | omega | exact H4.out)))
              refine FSteps.cons (FStep.value (.pointer (some ⟨b3, 0, none⟩)) (fun u w hd => wanted_on 7 36 true rfl rfl (congrArg some (hd.get 0 _ rfl rfl))) (fun _ _ => rfl) (fun _ => rfl) (fun u w hW hC (hd : After _ _ u w) ρ hρ => ?_)) ?_
              · have r3 : ρ (.tmp 3) = .pointer (some ⟨b3, 0, none⟩) := (by subst hρ; rfl); clear hρ hd
                (go_simp; (try (first | exact wrap_in _ (by omega) (by omega) | omega | exact H4.out)))
              refine FSteps.cons (FStep.value (.slice A N c1) (fun u w hd => wanted_on 7 36 true rfl rfl (congrArg some (hd.get 1 _ rfl rfl))) (fun _ _ => rfl) (fun _ => rfl) (fun u w hW hC (hd : After _ _ u w) ρ hρ => ?_)) ?_
              · have r39 : ρ (.tmp 39) = .pointer (some ⟨b3, 0, none⟩) := (by rw [hρ]; exact hd.get 0 _ rfl rfl); clear hρ hd
                (go_simp; (try (first | exact wrap_in _ (by omega) (by omega) | omega | exact H4.out)))
              refine FSteps.cons (FStep.value (.int .i64 ((N : Int))) (fun u w hd => wanted_on 7 36 true rfl rfl (congrArg some (hd.get 1 _ rfl rfl))) (fun _ _ => rfl) (fun _ => rfl) (fun u w hW hC (hd : After _ _ u w) ρ hρ => ?_)) ?_
              · have r40 : ρ (.tmp 40) = .slice A N c1 := (by rw [hρ]; exact hd.get 0 _ rfl rfl); clear hρ hd
                (go_simp; (try (first | exact wrap_in _ (by omega) (by omega) | omega | exact H4.out)))
              refine FSteps.cons (FStep.value (.slice A2 q c2) (fun u w hd => wanted_on 7 36 true rfl rfl (congrArg some (hd.get 0 _ rfl rfl))) (fun _ _ => rfl) (fun _ => rfl) (fun u w hW hC (hd : After _ _ u w) ρ hρ => ?_)) ?_
              · have r4 : ρ (.tmp 4) = .slice A2 q c2 := (by subst hρ; rfl); clear hρ hd
                (go_simp; (try (first | exact wrap_in _ (by omega) (by omega) | omega | exact H4.out)))
              refine FSteps.cons (FStep.value (.int .i64 ((q : Int))) (fun u w hd => wanted_on 7 36 true rfl rfl (congrArg some (hd.get 1 _ rfl rfl))) (fun _ _ => rfl) (fun _ => rfl) (fun u w hW hC (hd : After _ _ u w) ρ hρ => ?_)) ?_
              · have r42 : ρ (.tmp 42) = .slice A2 q c2 := (by rw [hρ]; exact hd.get 0 _ rfl rfl); clear hρ hd
                (go_simp; (try (first | exact wrap_in _ (by omega) (by omega) | omega | exact H4.out)))
              refine FSteps.cons (FStep.value (.int .i64 (2 * (q : Int))) (fun u w hd => wanted_on 7 36 true rfl rfl (congrArg some (hd.get 1 _ rfl rfl))) (fun _ _ => rfl) (fun _ => rfl) (fun u w hW hC (hd : After _ _ u w) ρ hρ => ?_)) ?_
              · have r43 : ρ (.tmp 43) = .int .i64 ((q : Int)) := (by rw [hρ]; exact hd.get 0 _ rfl rfl); have rc : ∀ v, ρ (.const v) = v := (by subst hρ; exact fun _ => rfl); clear hρ hd
                (go_simp; (try (first | exact wrap_in _ (by omega) (by omega) | omega | exact H4.out)))
              refine FSteps.cons (FStep.value (.int .i64 ((N : Int) - 2 * (q : Int))) (fun u w hd => wanted_on 7 36 true rfl rfl (congrArg some (hd.get 2 _ rfl rfl))) (fun _ _ => rfl) (fun _ => rfl) (fun u w hW hC (hd : After _ _ u w) ρ hρ => ?_)) ?_
              · have r41 : ρ (.tmp 41) = .int .i64 ((N : Int)) := (by rw [hρ]; exact hd.get 0 _ rfl rfl); have r44 : ρ (.tmp 44) = .int .i64 (2 * (q : Int)) := (by rw [hρ]; exact hd.get 1 _ rfl rfl); clear hρ hd
                (go_simp; (try (first | exact wrap_in _ (by omega) (by omega) | omega | exact H4.out)))
              refine FSteps.cons (FStep.value (.bool true) (fun u w hd => wanted_on 7 36 true rfl rfl (congrArg some (hd.get 2 _ rfl rfl))) (fun _ _ => rfl) (fun _ => rfl) (fun u w hW hC (hd : After _ _ u w) ρ hρ => ?_)) ?_
              · have r38 : ρ (.tmp 38) = .int .i64 ((N : Int) - 2 * (q : Int)) := (by rw [hρ]; exact hd.get 0 _ rfl rfl); have r45 : ρ (.tmp 45) = .int .i64 ((N : Int) - 2 * (q : Int)) := (by rw [hρ]; exact hd.get 1 _ rfl rfl); clear hρ hd
                (go_simp; (try (first | exact wrap_in _ (by omega) (by omega) | omega | exact H4.out)))
              refine FSteps.cons (FStep.value (.bool true) (fun _ _ _ => wanted_none rfl) (fun _ _ => rfl) (fun _ => rfl) (fun u w hW hC (hd : After _ _ u w) ρ hρ => ?_)) ?_
              · have r36 : ρ (.tmp 36) = .bool true := (by rw [hρ]; exact hd.get 0 _ rfl rfl); have r46 : ρ (.tmp 46) = .bool true := (by rw [hρ]; exact hd.get 1 _ rfl rfl); have rc : ∀ v, ρ (.const v) = v := (by subst hρ; exact fun _ => rfl); clear hρ hd
                (go_simp; (try (first | exact wrap_in _ (by omega) (by omega) | omega | exact H4.out)))
              refine FSteps.cons (FStep.value (.bool true) (fun _ _ _ => wanted_none rfl) (fun _ _ => rfl) (fun _ => rfl) (fun u w hW hC (hd : After _ _ u w) ρ hρ => ?_)) ?_
              · have r47 : ρ (.tmp 47) = .bool true := (by rw [hρ]; exact hd.get 0 _ rfl rfl); clear hρ hd
                (go_simp; (try (first | exact wrap_in _ (by omega) (by omega) | omega | exact H4.out)))
              refine FSteps.cons (FStep.value (.int .i64 ((lw : Int))) (fun u w hd => wanted_on 19 48 true rfl rfl (congrArg some (hd.get 0 _ rfl rfl))) (fun _ _ => rfl) (fun _ => rfl) (fun u w hW hC (hd : After _ _ u w) ρ hρ => ?_)) ?_
              · have r5 : ρ (.tmp 5) = .int .i64 ((lw : Int)) := (by subst hρ; rfl); clear hρ hd
                (go_simp; (try (first | exact wrap_in _ (by omega) (by omega) | omega | exact H4.out)))
              refine FSteps.cons (FStep.value (.bool true) (fun u w hd => wanted_on 19 48 true rfl rfl (congrArg some (hd.get 1 _ rfl rfl))) (fun _ _ => rfl) (fun _ => rfl) (fun u w hW hC (hd : After _ _ u w) ρ hρ => ?_)) ?_
              · have r49 : ρ (.tmp 49) = .int .i64 ((lw : Int)) := (by rw [hρ]; exact hd.get 0 _ rfl rfl); have rc : ∀ v, ρ (.const v) = v := (by subst hρ; exact fun _ => rfl); clear hρ hd
                (go_simp; (try (first | exact wrap_in _ (by omega) (by omega) | omega | exact H4.out)))
              refine FSteps.cons (FStep.value (.bool true) (fun _ _ _ => wanted_none rfl) (fun _ _ => rfl) (fun _ => rfl) (fun u w hW hC (hd : After _ _ u w) ρ hρ => ?_)) ?_
              · have r48 : ρ (.tmp 48) = .bool true := (by rw [hρ]; exact hd.get 0 _ rfl rfl); have r50 : ρ (.tmp 50) = .bool true := (by rw [hρ]; exact hd.get 1 _ rfl rfl); have rc : ∀ v, ρ (.const v) = v := (by subst hρ; exact fun _ => rfl); clear hρ hd
                (go_simp; (try (first | exact wrap_in _ (by omega) (by omega) | omega | exact H4.out)))
              refine FSteps.cons (FStep.value (.bool true) (fun _ _ _ => wanted_none rfl) (fun _ _ => rfl) (fun _ => rfl) (fun u w hW hC (hd : After _ _ u w) ρ hρ => ?_)) ?_
              · have r51 : ρ (.tmp 51) = .bool true := (by rw [hρ]; exact hd.get 0 _ rfl rfl); clear hρ hd
                (go_simp; (try (first | exact wrap_in _ (by omega) (by omega) | omega | exact H4.out)))
              refine FSteps.cons (FStep.value (.agg #[.slice A N c1]) (fun u w hd => wanted_on 23 52 true rfl rfl (congrArg some (hd.get 0 _ rfl rfl))) (fun _ _ => rfl) (fun _ => rfl) (fun u w hW hC (hd : After _ _ u w) ρ hρ => ?_)) ?_
              · have r3 : ρ (.tmp 3) = .pointer (some ⟨b3, 0, none⟩) := (by subst hρ; rfl); clear hρ hd
                (go_simp; (try (first | exact wrap_in _ (by omega) (by omega) | omega | exact H4.out)))
              refine FSteps.cons (FStep.value (.int .i64 ((lw : Int))) (fun u w hd => wanted_on 23 52 true rfl rfl (congrArg some (hd.get 0 _ rfl rfl))) (fun _ _ => rfl) (fun _ => rfl) (fun u w hW hC (hd : After _ _ u w) ρ hρ => ?_)) ?_
              · have r5 : ρ (.tmp 5) = .int .i64 ((lw : Int)) := (by subst hρ; rfl); clear hρ hd
                (go_simp; (try (first | exact wrap_in _ (by omega) (by omega) | omega | exact H4.out)))
              refine FSteps.cons (FStep.callC (.bool false) _ #[.agg #[.slice A N c1], .int .i64 ((lw : Int))] (fun u w hd => wanted_on 23 52 true rfl rfl (congrArg some (hd.get 2 _ rfl rfl))) (fun _ _ => rfl) (fun _ => rfl) (fun u w hW hC (hd : After _ _ u w) ρ hρ => ?_) (fun w hW => IsReflex_at A L c1 N lw _ w HLN.out (HR.out w (by (repeat (first | exact Ext.refl _ | assumption | apply Ext.alloc | apply Ext.drew | apply Ext.drewN | (refine Ext.trans ?_ (by assumption)))))) hn10 HIR.out)) ?_
              · have r53 : ρ (.tmp 53) = .agg #[.slice A N c1] := (by rw [hρ]; exact hd.get 0 _ rfl rfl); have r54 : ρ (.tmp 54) = .int .i64 ((lw : Int)) := (by rw [hρ]; exact hd.get 1 _ rfl rfl); have rf : ∀ f, ρ (.func f) = .func (.func f) #[] #[] := (by subst hρ; exact fun _ => rfl); clear hρ hd
                (go_simp; (try (first | exact wrap_in _ (by omega) (by omega) | omega | exact H4.out)))
              refine FSteps.cons (FStep.value (.bool true) (fun u w hd => wanted_on 23 52 true rfl rfl (congrArg some (hd.get 1 _ rfl rfl))) (fun _ _ => rfl) (fun _ => rfl) (fun u w hW hC (hd : After _ _ u w) ρ hρ => ?_)) ?_
              · have r55 : ρ (.tmp 55) = .bool false := (by rw [hρ]; exact hd.get 0 _ rfl rfl); clear hρ hd
                (go_simp; (try (first | exact wrap_in _ (by omega) (by omega) | omega | exact H4.out)))
              refine FSteps.cons (FStep.value (.bool true) (fun _ _ _ => wanted_none rfl) (fun _ _ => rfl) (fun _ => rfl) (fun u w hW hC (hd : After _ _ u w) ρ hρ => ?_)) ?_
              · have r52 : ρ (.tmp 52) = .bool true := (by rw [hρ]; exact hd.get 0 _ rfl rfl); have r56 : ρ (.tmp 56) = .bool true := (by rw [hρ]; exact hd.get 1 _ rfl rfl); have rc : ∀ v, ρ (.const v) = v := (by subst hρ; exact fun _ => rfl); clear hρ hd
                (go_simp; (try (first | exact wrap_in _ (by omega) (by omega) | omega | exact H4.out)))
              refine FSteps.cons (FStep.value (.bool true) (fun _ _ _ => wanted_none rfl) (fun _ _ => rfl) (fun _ => rfl) (fun u w hW hC (hd : After _ _ u w) ρ hρ => ?_)) ?_
              · have r57 : ρ (.tmp 57) = .bool true := (by rw [hρ]; exact hd.get 0 _ rfl rfl); clear hρ hd
                (go_simp; (try (first | exact wrap_in _ (by omega) (by omega) | omega | exact H4.out)))
              refine FSteps.cons (FStep.value (.agg #[.slice A N c1]) (fun u w hd => wanted_on 29 58 true rfl rfl (congrArg some (hd.get 0 _ rfl rfl))) (fun _ _ => rfl) (fun _ => rfl) (fun u w hW hC (hd : After _ _ u w) ρ hρ => ?_)) ?_
              · have r3 : ρ (.tmp 3) = .pointer (some ⟨b3, 0, none⟩) := (by subst hρ; rfl); clear hρ hd
                (go_simp; (try (first | exact wrap_in _ (by omega) (by omega) | omega | exact H4.out)))
              refine FSteps.cons (FStep.callC (.bool true) _ #[.agg #[.slice A N c1]] (fun u w hd => wanted_on 29 58 true rfl rfl (congrArg some (hd.get 1 _ rfl rfl))) (fun _ _ => rfl) (fun _ => rfl) (fun u w hW hC (hd : After _ _ u w) ρ hρ => ?_) (fun w hW => IsConvex_at A L c1 N _ w HLN.out (HR.out w (by (repeat (first | exact Ext.refl _ | assumption | apply Ext.alloc | apply Ext.drew | apply Ext.drewN | (refine Ext.trans ?_ (by assumption)))))) hn10 HCV.out)) ?_
              · have r59 : ρ (.tmp 59) = .agg #[.slice A N c1] := (by rw [hρ]; exact hd.get 0 _ rfl rfl); have rf : ∀ f, ρ (.func f) = .func (.func f) #[] #[] := (by subst hρ; exact fun _ => rfl); clear hρ hd
                (go_simp; (try (first | exact wrap_in _ (by omega) (by omega) | omega | exact H4.out)))
              refine FSteps.cons (FStep.value (.slice A2 q c2) (fun u w hd => wanted_on 29 58 true rfl rfl (congrArg some (hd.get 0 _ rfl rfl))) (fun _ _ => rfl) (fun _ => rfl) (fun u w hW hC (hd : After _ _ u w) ρ hρ => ?_)) ?_
              · have r4 : ρ (.tmp 4) = .slice A2 q c2 := (by subst hρ; rfl); clear hρ hd
                (go_simp; (try (first | exact wrap_in _ (by omega) (by omega) | omega | exact H4.out)))
              refine FSteps.cons (FStep.value (.int .i64 ((q : Int))) (fun u w hd => wanted_on 29 58 true rfl rfl (congrArg some (hd.get 1 _ rfl rfl))) (fun _ _ => rfl) (fun _ => rfl) (fun u w hW hC (hd : After _ _ u w) ρ hρ => ?_)) ?_
              · have r61 : ρ (.tmp 61) = .slice A2 q c2 := (by rw [hρ]; exact hd.get 0 _ rfl rfl); clear hρ hd
                (go_simp; (try (first | exact wrap_in _ (by omega) (by omega) | omega | exact H4.out)))
              refine FSteps.cons (FStep.value (.bool true) (fun u w hd => wanted_on 29 58 true rfl rfl (congrArg some (hd.get 1 _ rfl rfl))) (fun _ _ => rfl) (fun _ => rfl) (fun u w hW hC (hd : After _ _ u w) ρ hρ => ?_)) ?_
              · have r62 : ρ (.tmp 62) = .int .i64 ((q : Int)) := (by rw [hρ]; exact hd.get 0 _ rfl rfl); have rc : ∀ v, ρ (.const v) = v := (by subst hρ; exact fun _ => rfl); clear hρ hd
                (go_simp; (try (first | exact wrap_in _ (by omega) (by omega) | omega | exact H4.out)))
              refine FSteps.cons (FStep.value (.bool true) (fun u w hd => wanted_on 29 58 true rfl rfl (congrArg some (hd.get 2 _ rfl rfl))) (fun _ _ => rfl) (fun _ => rfl) (fun u w hW hC (hd : After _ _ u w) ρ hρ => ?_)) ?_
              · have r60 : ρ (.tmp 60) = .bool true := (by rw [hρ]; exact hd.get 0 _ rfl rfl); have r63 : ρ (.tmp 63) = .bool true := (by rw [hρ]; exact hd.get 1 _ rfl rfl); clear hρ hd
                (go_simp; (try (first | exact wrap_in _ (by omega) (by omega) | omega | exact H4.out)))
              refine FSteps.cons (FStep.value (.bool true) (fun _ _ _ => wanted_none rfl) (fun _ _ => rfl) (fun _ => rfl) (fun u w hW hC (hd : After _ _ u w) ρ hρ => ?_)) ?_
              · have r58 : ρ (.tmp 58) = .bool true := (by rw [hρ]; exact hd.get 0 _ rfl rfl); have r64 : ρ (.tmp 64) = .bool true := (by rw [hρ]; exact hd.get 1 _ rfl rfl); have rc : ∀ v, ρ (.const v) = v := (by subst hρ; exact fun _ => rfl); clear hρ hd
                (go_simp; (try (first | exact wrap_in _ (by omega) (by omega) | omega | exact H4.out)))
              refine FSteps.cons (FStep.value (.bool true) (fun _ _ _ => wanted_none rfl) (fun _ _ => rfl) (fun _ => rfl) (fun u w hW hC (hd : After _ _ u w) ρ hρ => ?_)) ?_
              · have r65 : ρ (.tmp 65) = .bool true := (by rw [hρ]; exact hd.get 0 _ rfl rfl); clear hρ hd
                (go_simp; (try (first | exact wrap_in _ (by omega) (by omega) | omega | exact H4.out)))
              refine FSteps.cons (FStep.value (.agg #[.slice A N c1]) (fun u w hd => wanted_on 37 66 true rfl rfl (congrArg some (hd.get 0 _ rfl rfl))) (fun _ _ => rfl) (fun _ => rfl) (fun u w hW hC (hd : After _ _ u w) ρ hρ => ?_)) ?_
              · have r3 : ρ (.tmp 3) = .pointer (some ⟨b3, 0, none⟩) := (by subst hρ; rfl); clear hρ hd
                (go_simp; (try (first | exact wrap_in _ (by omega) (by omega) | omega | exact H4.out)))
              refine FSteps.cons (FStep.callC (.bool true) _ #[.agg #[.slice A N c1]] (fun u w hd => wanted_on 37 66 true rfl rfl (congrArg some (hd.get 1 _ rfl rfl))) (fun _ _ => rfl) (fun _ => rfl) (fun u w hW hC (hd : After _ _ u w) ρ hρ => ?_) (fun w hW => IsRectangular_at A L c1 N _ w HLN.out (HR.out w (by (repeat (first | exact Ext.refl _ | assumption | apply Ext.alloc | apply Ext.drew | apply Ext.drewN | (refine Ext.trans ?_ (by assumption)))))) hn10 HRV.out)) ?_
              · have r67 : ρ (.tmp 67) = .agg #[.slice A N c1] := (by rw [hρ]; exact hd.get 0 _ rfl rfl); have rf : ∀ f, ρ (.func f) = .func (.func f) #[] #[] := (by subst hρ; exact fun _ => rfl); clear hρ hd
                (go_simp; (try (first | exact wrap_in _ (by omega) (by omega) | omega | exact H4.out)))
              refine FSteps.cons (FStep.value (.bool false) (fun u w hd => wanted_on 37 66 true rfl rfl (congrArg some (hd.get 1 _ rfl rfl))) (fun _ _ => rfl) (fun _ => rfl) (fun u w hW hC (hd : After _ _ u w) ρ hρ => ?_)) ?_
              · have r68 : ρ (.tmp 68) = .bool true := (by rw [hρ]; exact hd.get 0 _ rfl rfl); clear hρ hd
                (go_simp; (try (first | exact wrap_in _ (by omega) (by omega) | omega | exact H4.out)))
              refine FSteps.cons (FStep.value (.bool false) (fun u w hd => wanted_on 37 66 true rfl rfl (congrArg some (hd.get 2 _ rfl rfl))) (fun _ _ => rfl) (fun _ => rfl) (fun u w hW hC (hd : After _ _ u w) ρ hρ => ?_)) ?_
              · have r69 : ρ (.tmp 69) = .bool false := (by rw [hρ]; exact hd.get 0 _ rfl rfl); clear hρ hd
                (go_simp; (try (first | exact wrap_in _ (by omega) (by omega) | omega | exact H4.out)))
              refine FSteps.cons (FStep.value (.agg #[.slice A N c1]) (fun u w hd => wanted_on 41 70 false rfl rfl (congrArg some (hd.get 0 _ rfl rfl))) (fun _ _ => rfl) (fun _ => rfl) (fun u w hW hC (hd : After _ _ u w) ρ hρ => ?_)) ?_
              · have r3 : ρ (.tmp 3) = .pointer (some ⟨b3, 0, none⟩) := (by subst hρ; rfl); clear hρ hd
                (go_simp; (try (first | exact wrap_in _ (by omega) (by omega) | omega | exact H4.out)))
              refine FSteps.cons (FStep.callC (.int .i64 ((N : Int) - 2 * (q : Int))) _ #[.agg #[.slice A N c1]] (fun u w hd => wanted_on 41 70 false rfl rfl (congrArg some (hd.get 1 _ rfl rfl))) (fun _ _ => rfl) (fun _ => rfl) (fun u w hW hC (hd : After _ _ u w) ρ hρ => ?_) (fun w hW => TurnSum_at A L c1 N _ w HLN.out (HR.out w (by (repeat (first | exact Ext.refl _ | assumption | apply Ext.alloc | apply Ext.drew | apply Ext.drewN | (refine Ext.trans ?_ (by assumption)))))) hn10 HTS.out)) ?_
              · have r71 : ρ (.tmp 71) = .agg #[.slice A N c1] := (by rw [hρ]; exact hd.get 0 _ rfl rfl); have rf : ∀ f, ρ (.func f) = .func (.func f) #[] #[] := (by subst hρ; exact fun _ => rfl); clear hρ hd
                (go_simp; (try (first | exact wrap_in _ (by omega) (by omega) | omega | exact H4.out)))
              refine FSteps.cons (FStep.value (.bool true) (fun u w hd => wanted_on 41 70 false rfl rfl (congrArg some (hd.get 1 _ rfl rfl))) (fun _ _ => rfl) (fun _ => rfl) (fun u w hW hC (hd : After _ _ u w) ρ hρ => ?_)) ?_
              · have r72 : ρ (.tmp 72) = .int .i64 ((N : Int) - 2 * (q : Int)) := (by rw [hρ]; exact hd.get 0 _ rfl rfl); have rc : ∀ v, ρ (.const v) = v := (by subst hρ; exact fun _ => rfl); clear hρ hd
                (go_simp; (try (first | exact wrap_in _ (by omega) (by omega) | omega | exact H4.out)))
              refine FSteps.cons (FStep.value (.bool true) (fun u w hd => wanted_on 37 66 true rfl rfl (congrArg some (hd.get 2 _ rfl rfl))) (fun _ _ => rfl) (fun _ => rfl) (fun u w hW hC (hd : After _ _ u w) ρ hρ => ?_)) ?_
              · have r70 : ρ (.tmp 70) = .bool false := (by rw [hρ]; exact hd.get 0 _ rfl rfl); have r73 : ρ (.tmp 73) = .bool true := (by rw [hρ]; exact hd.get 1 _ rfl rfl); have rc : ∀ v, ρ (.const v) = v := (by subst hρ; exact fun _ => rfl); clear hρ hd
                (go_simp; (try (first | exact wrap_in _ (by omega) (by omega) | omega | exact H4.out)))
              refine FSteps.cons (FStep.value (.bool true) (fun _ _ _ => wanted_none rfl) (fun _ _ => rfl) (fun _ => rfl) (fun u w hW hC (hd : After _ _ u w) ρ hρ => ?_)) ?_
              · have r66 : ρ (.tmp 66) = .bool true := (by rw [hρ]; exact hd.get 0 _ rfl rfl); have r74 : ρ (.tmp 74) = .bool true := (by rw [hρ]; exact hd.get 1 _ rfl rfl); have rc : ∀ v, ρ (.const v) = v := (by subst hρ; exact fun _ => rfl); clear hρ hd
                (go_simp; (try (first | exact wrap_in _ (by omega) (by omega) | omega | exact H4.out)))
              refine FSteps.cons (FStep.value (.bool true) (fun _ _ _ => wanted_none rfl) (fun _ _ => rfl) (fun _ => rfl) (fun u w hW hC (hd : After _ _ u w) ρ hρ => ?_)) ?_
              · have r75 : ρ (.tmp 75) = .bool true := (by rw [hρ]; exact hd.get 0 _ rfl rfl); clear hρ hd
                (go_simp; (try (first | exact wrap_in _ (by omega) (by omega) | omega | exact H4.out)))
              exact FSteps.nil
            case hV5 => (simp only [List.forall_mem_cons]; simp [stable_is])
            case fin5 =>
              intro u w2 hW2 hC2 hd
              have e47 : u 47 = .bool true := AllV.get _ 0 47 u w2 _ hd rfl
              clear hd
              refine then_normal ?_
              go_step
              refine wp_ret ?_
              refine bodyPost_ret (results_tmp rfl _ _ _) rfl ?_
              exact ⟨congrArg Ending.returned e47, (HE.out.trans hW2).below⟩

end Go.Proofs.Ytanagdlikoinaaa
