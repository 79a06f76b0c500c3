/-
  Contracts: EncodeHex of the program and of the reference.
-/
import Derived.Test.YtkdhgngpapfkdaaDoorBytes
import Derived.Test.YtkdhgngpapfkdaaDoorJ1
namespace Go.Proofs.YtkdhgngpapfkdaaDoor
open Go.RowKit

theorem info_u8 : (Tryd.prog.info? 5).map (fun i => (i.zero, i.size, i.bytes)) = some (some (.int .u8 0), 1, 1) := by kernel_rfl

/-- a new block's cells, as what an append takes -/
theorem news_alloc8 (w : World) (cs : List Value) (T : TypeId) : ∀ j u, cs[j]? = some u → (w.alloc (.cells cs.toArray T)).cell? ((⟨w.heap.size, 0, none⟩ : Addr).add j) = some u :=
  SLn.addr (fun j u hu => by
    have := heap_alloc_new w (.cells cs.toArray T)
    unfold World.cell?
    simp only [this]
    simpa using hu)

/-- the hexadecimal digit of a number below 16 -/
def figN (n : Nat) : UInt8 := UInt8.ofNat (if n < 10 then 48 + n else 87 + n)
theorem figN_toNat {n : Nat} (h : n < 16) : (figN n).toNat = if n < 10 then 48 + n else 87 + n := by
  unfold figN
  rw [UInt8.toNat_ofNat']
  split <;> omega
/-- the hexadecimal text of a row of bytes -/
def hexL : List UInt8 → List UInt8
  | [] => []
  | b :: l => figN (b.toNat / 16) :: figN (b.toNat % 16) :: hexL l
theorem hexL_append (a b : List UInt8) : hexL (a ++ b) = hexL a ++ hexL b := by
  induction a with
  | nil => rfl
  | cons x a ih => simp [hexL, ih]
theorem hexL_length (l : List UInt8) : (hexL l).length = l.length * 2 := by
  induction l with
  | nil => rfl
  | cons x a ih => simp only [hexL, List.length_cons, ih]; omega
/-- what EncodeHex returns -/
def encV (s : ByteArray) : Value := if s.size ≤ 20000 then .tuple #[.string ⟨(hexL (byl s)).toArray⟩, .bool true] else .tuple #[.string ⟨#[]⟩, .bool false]

/-- the digits, as the program has them -/
def digitsB : ByteArray := ⟨#[48, 49, 50, 51, 52, 53, 54, 55, 56, 57, 97, 98, 99, 100, 101, 102]⟩
theorem digits_at : ∀ n : Fin 16, ((digitsB[n.val]'(by have := n.isLt; exact this)).toNat : Int) = ((figN n.val).toNat : Int) := by decide +kernel

theorem digits_q (x : Int) (n : Nat) (hx : x = (n : Int)) (hn : n < 16) (h : x.toNat < ByteArray.size ⟨#[48, 49, 50, 51, 52, 53, 54, 55, 56, 57, 97, 98, 99, 100, 101, 102]⟩) :
    (((⟨#[48, 49, 50, 51, 52, 53, 54, 55, 56, 57, 97, 98, 99, 100, 101, 102]⟩ : ByteArray)[x.toNat]'h).toNat : Int) = ((figN n).toNat : Int) := by
  subst hx
  exact digits_at ⟨n, hn⟩

theorem l01Figure_any (n : Nat) (w : World) (hn : n < 16) : Calls Tryd.prog 37 #[.int .i64 n] w fun e w' => e = .returned (.int .u8 ((figN n).toNat : Int)) ∧ w = w' := by
  have hf := figN_toNat hn
  go_enter Tryd.func37, Tryd.ntmps37
  go_wp2
  all_goals (go_ret; refine ⟨ret_int ?_, rfl⟩; rw [hf]; split <;> omega)

set_option maxRecDepth 100000 in
set_option maxHeartbeats 800000 in
theorem EncodeHex_any (s : ByteArray) (w : World) :
    Calls Tryd.prog 19 #[.string s] w fun e w' => e = .returned (encV s) ∧ Ext w w' := by
  obtain ⟨i0, hI, hZ, hS, hY⟩ := info_parts info_u8
  by_cases hbig : s.size ≤ 20000
  · have HV := hide (show encV s = .tuple #[.string ⟨(hexL (byl s)).toArray⟩, .bool true] by unfold encV; rw [if_pos hbig])
    have t1 : decide ((20000 : Int) < (s.size : Int)) = false := by simp; omega
    have hmk := fun W => run_makeRow (P := Tryd.prog) 30 5 i0 _ Tryd.underlying30 hI hZ .i64 .i64 0 (2 * s.size) (Nat.zero_le _) (by rw [hY]; omega) (by omega) W
    rw [hS] at hmk
    simp only [Value.cells, Int.natCast_mul, Int.cast_ofNat_Int] at hmk
    go_enter Tryd.func19, Tryd.ntmps19
    go_wp2
    go_loopw [4, 5] (fun out i wr => ∃ (k : Nat) (o : Value), k ≤ s.size ∧ i = .int .i64 k ∧ o = out ∧ Ext w wr ∧ wr.ownsRow w.heap.size 5 1 o (k * 2) (u8s (hexL ((byl s).take k)))) (fun _ i _ => s.size - (intOf i).toNat)
    case atStart => exact ⟨0, _, Nat.zero_le _, rfl, rfl, by (repeat (first | exact Ext.refl _ | assumption | apply Ext.alloc | apply Ext.drew | apply Ext.drewN | (refine Ext.trans ?_ (by assumption)))), by simp [u8s, hexL], .inr ⟨w.heap.size, 2 * s.size, _, rfl, Nat.le_refl _, heap_alloc_new w _, Nat.zero_le _, by unfold maxLen; omega, by simp [size_madeCells], by simp [u8s, hexL]⟩⟩
    case round =>
      obtain ⟨k, o, hk, rfl, ho, hbl, hown⟩ := hrel; subst ho
      obtain ⟨wq, rfl⟩ : ∃ wq : World, wq = wr := ⟨_, rfl⟩
      clear hmk
      by_cases hlt : k < s.size
      · have hb8 := by8_of s k hlt
        have hy2 : (by8 s k).toNat < 256 := by8_lt s k
        have q3 : (0 : Int) ≤ ((by8 s k).toNat : Int) / 16 := by omega
        have q4 : ((by8 s k).toNat : Int) / 16 < 16 := by omega
        have q5 : (0 : Int) ≤ ((by8 s k).toNat : Int) % 16 := by omega
        have q6 : ((by8 s k).toNat : Int) % 16 < 16 := by omega
        have q7 : bits .and .u8 ((by8 s k).toNat : Int) 15 = ((by8 s k).toNat : Int) % 16 := u8_and15 _ (by omega) (by omega)
        have q1 : (0 : Int) ≤ (k : Int) := by omega
        have q2 : (k : Int) < (s.size : Int) := by omega
        have q8 := fun h => digits_q (((by8 s k).toNat : Int) / 16) ((by8 s k).toNat / 16) (by omega) (by omega) h
        have q9 := fun h => digits_q (((by8 s k).toNat : Int) % 16) ((by8 s k).toNat % 16) (by omega) (by omega) h
        have HS := hide (show hexL ((byl s).take (k + 1)) = hexL ((byl s).take k) ++ [figN ((by8 s k).toNat / 16), figN ((by8 s k).toNat % 16)] by rw [byl_take s k hlt, hexL_append]; rfl)
        go_wp2
        refine wp_flow_tail 12 (by kernel_rfl) (by kernel_rfl) (by kernel_rfl) (by kernel_rfl) (fun u => ⟨#[_, _, _, _, _, _, _, _, _, _, _, _, _, _, _, _, _, _, _, u 0, u 1, u 2, u 3, u 4, u 5, u 6, u 7, u 8, u 9, u 10, u 11, _, _, _], _⟩) (fun i => List.getD [_, _, _, _, _, _, _, _, _, _, _, _] i undef) [is ?v1_0, is ?v1_1, is ?v1_2, is ?v1_3, is ?v1_4, is ?v1_5, is ?v1_6, is ?v1_7, is ?v1_8, is ?v1_9, is ?v1_10, (SLn wq.heap.size [.int .u8 ((figN ((by8 s k).toNat / 16)).toNat : Int), .int .u8 ((figN ((by8 s k).toNat % 16)).toNat : Int)] 2)] (fun w' => wq.heap.size ≤ w'.heap.size) _ rfl ?hC1 ?hs1 ?hV1 ?fin1
        case hC1 => (intro w' hx; and_intros <;> (first | (refine (Eq.trans (hx.cells _ _ ?_) ?_) <;> first | assumption | omega | (simp; done) | (simp; omega) | (simp [go_sem, World.cell?_alloc_past, *]; done)) | (have hz := hx.size; first | omega | (simp at hz; omega))))
        case hs1 =>
          repeat' (first
            | exact FSteps.nil
            | refine FSteps.cons ?_ ?_
            | (refine FStep.off_ _ _ _ rfl rfl ?_ (fun _ => rfl) ?_; (focus (intro u w hd; simp [vOf, is, Region.binds] at hd; simp [hd])); (intro w'; exact rfl); done)
            | ((first
                | refine FStep.plain rfl ?_
                | (refine FStep.on_ _ _ _ rfl rfl ?_ ?_; (focus (intro u w hd; simp [vOf, is, Region.binds] at hd; simp [hd]))))
               intro u w hW hC hd K hK
               (try simp [vOf, is, Region.binds] at hd)
               simp only [upd, Nat.reduceEqDiff, if_true, if_false] at hK
               (try simp only [hd] at hK)
               go_simp
               (first
                 | (refine hK _ _ ?_ ?_; (first | exact rfl | exact SLn_new _ _ hC); (repeat (first | exact Ext.refl _ | assumption | apply Ext.alloc | apply Ext.drew | apply Ext.drewN | (refine Ext.trans ?_ (by assumption))))))))
        case hV1 => (simp only [List.forall_mem_cons]; simp [stable_is, SLn_stable])
        case fin1 =>
          intro u w2 hW2 hC2 hd
          simp only [AllV, is] at hd
          have hs11 := hd.2.2.2.2.2.2.2.2.2.2.2.1
          simp only [List.drop_succ_cons, List.drop_zero]
          simp only [hd]
          clear hd
          obtain ⟨b1, hu, hb1, hb1', hcells⟩ := hs11
          have hown2 := ownsRow_ext hown (show Ext wq w2 by (repeat (first | exact Ext.refl _ | assumption | apply Ext.alloc | apply Ext.drew | apply Ext.drewN | (refine Ext.trans ?_ (by assumption)))))
          simp only [hu]
          refine wpList_app _ rfl (.tmp 19) (.tmp 30) _ rfl w.heap.size 5 i0 _ 1 1 Tryd.underlying30 hI hZ hS hY rfl (by omega) o (k * 2) _ rfl hown2 ⟨b1, 0, none⟩ 2 2 _ rfl rfl (SLn.addr hcells) (by simp [Value.oneCell']) (by unfold maxLen; omega) (by omega) (show Ext w w2 by (repeat (first | exact Ext.refl _ | assumption | apply Ext.alloc | apply Ext.drew | apply Ext.drewN | (refine Ext.trans ?_ (by assumption))))).size ?_
          intro v' w3 hown3 hg3 _
          have hx3 : Ext w w3 := ext_grown (show Ext w w2 by (repeat (first | exact Ext.refl _ | assumption | apply Ext.alloc | apply Ext.drew | apply Ext.drewN | (refine Ext.trans ?_ (by assumption))))) hg3 (fun q hq => (hown2.lt q hq).1)
          clear hC2 hcells hown hown2 hg3
          go_wp2
          go_roundw
          case rel => exact ⟨k + 1, _, by omega, by go_num, rfl, hx3, by rw [HS.out, u8s_append, Nat.succ_mul]; exact hown3⟩
          case measure => simp [intOf]; omega
      · have e : k = s.size := by omega
        have E := hide e
        clear e
        have hcv := conv_own (src := 30) (dst := 9) Tryd.underlying30 Tryd.underlying5 Tryd.underlying9 hown
        go_wp2
        refine bodyPost_ret (v := .tuple #[.string ⟨(hexL ((byl s).take k)).toArray⟩, .bool true]) (by simp [results, Tryd.results19, go_sem]) rfl ⟨by rw [HV.out, E.out, byl_full], by (repeat (first | exact Ext.refl _ | assumption | apply Ext.alloc | apply Ext.drew | apply Ext.drewN | (refine Ext.trans ?_ (by assumption))))⟩
  · have HV := hide (show encV s = .tuple #[.string ⟨#[]⟩, .bool false] by unfold encV; rw [if_neg hbig])
    have t1 : decide ((20000 : Int) < (s.size : Int)) = true := by simp; omega
    go_enter Tryd.func19, Tryd.ntmps19
    go_wp2
    exact bodyPost_ret (v := .tuple #[.string ⟨#[]⟩, .bool false]) (by simp [results, Tryd.results19, go_sem]) rfl ⟨by rw [HV.out], Ext.refl _⟩

theorem l01Figure_q (x : Int) (n : Nat) (hx : x = (n : Int)) (hn : n < 16) (w : World) : Calls Tryd.prog 37 #[.int .i64 x] w fun e w' => e = .returned (.int .u8 ((figN n).toNat : Int)) ∧ Ext w w' := by
  subst hx
  refine (l01Figure_any n w hn).mono ?_
  rintro e w' ⟨rfl, rfl⟩
  exact ⟨rfl, Ext.refl _⟩

end Go.Proofs.YtkdhgngpapfkdaaDoor
