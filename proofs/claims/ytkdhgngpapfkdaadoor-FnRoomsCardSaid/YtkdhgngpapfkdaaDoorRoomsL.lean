/-
  What FnRooms asks of a room, in plain words; contracts at numbers that are variables.
-/
import Derived.Test.YtkdhgngpapfkdaaDoorStartC
import Derived.Test.YtkdhgngpapfkdaaDoorTurned
import Derived.Test.YtkdhgngpapfkdaaDoorCor4
import Derived.Test.YtkdhgngpapfkdaaDoorRTextI
import Derived.Test.YtkdhgngpapfkdaaDoorWallOf
import Derived.Test.YtkdhgngpapfkdaaDoorSightL
namespace Go.Proofs.YtkdhgngpapfkdaaDoor
open Go.RowKit

theorem RoomOk_at (A : Option Addr) (l : List (Int × Int)) (c N : Nat) (w : World) (hN : l.length = N) (hp : RPts w A l) (hn : N ≤ 1048576) (hr : roomB l = true) :
    Calls Tryd.prog 34 #[.agg #[.slice A N c]] w fun e w' => e = .returned (.bool true) ∧ Ext w w' := by
  subst hN
  rw [← hr]
  exact RoomOk_any A l c w hp hn
theorem RoomText_at (A : Option Addr) (l : List (Int × Int)) (c N : Nat) (T : ByteArray) (w : World) (hN : l.length = N) (hp : RPts w A l) (hn : N ≤ 1048576) (htab : Lib.TabIs Tryd.prog w "internal/strconv.uint64pow10" .u64 Lib.pow10Tab) (hT : rtxtV l = T) :
    Calls Tryd.prog 28 #[.agg #[.slice A N c]] w fun e w' => e = .returned (.string T) ∧ Ext w w' := by
  subst hN
  subst hT
  exact RoomText_any A l c w hp hn htab
theorem CornerAt_at (A : Option Addr) (l : List (Int × Int)) (c N : Nat) (k X Y : Int) (w : World) (hN : l.length = N) (hp : RPts w A l) (hn : N ≤ 1048576) (hX : cX l k = X) (hY : cY l k = Y) :
    Calls Tryd.prog 36 #[.agg #[.slice A N c], .int .i64 k] w fun e w' => e = .returned (.agg #[.int .i64 X, .int .i64 Y]) ∧ Ext w w' := by
  subst hN
  subst hX
  subst hY
  exact CornerAt_any A l c k w hp hn
theorem IsCorner_at (A : Option Addr) (l : List (Int × Int)) (c N : Nat) (X Y k : Int) (w : World) (hN : l.length = N) (hp : RPts w A l) (hn : N ≤ 1048576) (hk : isCorV l X Y = k) :
    Calls Tryd.prog 35 #[.agg #[.slice A N c], .agg #[.int .i64 X, .int .i64 Y]] w fun e w' => e = .returned (.int .i64 k) ∧ Ext w w' := by
  subst hN
  subst hk
  exact IsCorner_any A l c X Y w hp hn
theorem WallOf_at (A : Option Addr) (l : List (Int × Int)) (c N k : Nat) (X0 Y0 X1 Y1 : Int) (w : World) (hN : l.length = N) (hp : RPts w A l) (hn : N ≤ 1048576) (hr : roomB l = true) (hk : k < N) (h1 : gx l k = X0) (h2 : gy l k = Y0) (h3 : gx l (nx l k) = X1) (h4 : gy l (nx l k) = Y1) :
    Calls Tryd.prog 33 #[.agg #[.slice A N c], .int .i64 k] w fun e w' => e = .returned (.agg #[.int .i64 X0, .int .i64 Y0, .int .i64 X1, .int .i64 Y1]) ∧ Ext w w' := by
  subst hN h1 h2 h3 h4
  have hC : hasC l (k : Int) = true := by simp [hasC, hr, inB]; omega
  refine (WallOf_any A l c k w hp hn).mono ?_
  rintro e w' ⟨rfl, hx⟩
  exact ⟨by unfold WallOfV; rw [if_pos hC]; rfl, hx⟩
theorem StartAt_at (A : Option Addr) (l : List (Int × Int)) (c N k : Nat) (w : World) (hN : l.length = N) (hp : RPts w A l) (hn : N ≤ 1048576) (hc : N ≤ c) (hr : roomB l = true) (hk : k < N) :
    Calls Tryd.prog 32 #[.agg #[.slice A N c], .int .i64 k] w fun e w' => ∃ A' c', e = .returned (.agg #[.slice A' N c']) ∧ N ≤ c' ∧ OwnS w' w.heap.size w'.heap.size 27 A' (startL l k) ∧ Ext w w' := by
  subst hN
  obtain ⟨b, off, rfl⟩ := hp.some_ (by omega)
  have hC : hasC l (k : Int) = true := by simp [hasC, hr, inB]; omega
  refine (StartAt_cap b off l c k w hp hn hc hk hC).mono ?_
  rintro e w' ⟨A', c', rfl, h1, h2, h3⟩
  rw [startL_length] at *
  exact ⟨A', c', rfl, h1, h2, h3⟩

set_option maxRecDepth 100000 in
theorem at_any (B : Option Addr) (n c : Nat) (w : World) (hb : RB w B n) (hn : n ≤ 1048576) :
    Calls Tryd.prog 31 #[.slice B n c, .int .i64 0] w fun e w' => ∃ x : Nat, x ≤ 255 ∧ e = .returned (.int .i64 (x : Int)) ∧ w = w' := by
  by_cases h : n = 0
  · subst h
    go_enter Tryd.func31, Tryd.ntmps31
    go_wp2
    go_ret
    exact ⟨0, by omega, rfl, rfl⟩
  · obtain ⟨b, off, rfl, hz, hcs⟩ := hb (by omega)
    have hz0 : ((n : Int) == 0) = false := by simp only [beq_eq_false_iff_ne]; omega
    obtain ⟨m, hm⟩ : ∃ m : Nat, m = 1 % n := ⟨_, rfl⟩
    have hml : m < n := by rw [hm]; exact Nat.mod_lt _ (by omega)
    have r1 : (1 : Int) % (n : Int) = (m : Int) := by rw [hm]; simp
    have r2 : (1 : Int).tmod (n : Int) = (m : Int) := by rw [Int.tmod_eq_emod_of_nonneg (by omega)]; exact r1
    obtain ⟨x, hx, x0, x1⟩ := hcs m hml
    obtain ⟨y, rfl⟩ := Int.eq_ofNat_of_zero_le x0
    have i1 : (0 : Int) ≤ (m : Int) := by omega
    have i2 : (m : Int) < (n : Int) := by omega
    have w1 := wrap_in (y : Int) (by omega) (by omega)
    clear hcs hm r1
    go_enter Tryd.func31, Tryd.ntmps31
    go_wp2
    go_ret
    exact ⟨y, by omega, by first | rfl | simp [w1], rfl⟩

theorem rtxt_ne {l : List (Int × Int)} (hr : roomB l = true) : rtxtV l ≠ ⟨#[]⟩ := by
  unfold rtxtV
  rw [if_pos hr]
  have h3 := (roomB_fine hr).2
  intro e
  have h := congrArg ByteArray.size e
  obtain ⟨k, hk⟩ : ∃ k, l.length = k + 1 := ⟨l.length - 1, by omega⟩
  rw [hk, txtK] at h
  unfold ptB at h
  rw [ByteArray.size_append, ByteArray.size_append, ByteArray.size_append] at h
  have h2 : (⟨#[]⟩ : ByteArray).size = 0 := rfl
  have h4 : (⟨#[44]⟩ : ByteArray).size = 1 := rfl
  omega

theorem bytes_nil {T : ByteArray} (h : T ≠ ⟨#[]⟩) : ¬ T.toList = [] := by
  rw [ByteArray.toList_eq]
  intro e
  apply h
  obtain ⟨d⟩ := T
  have e2 : d = #[] := by simpa using e
  rw [e2]

/-- what the statement asks of a room and one of its corners -/
theorem rooms_plain {L : List (Int × Int)} (hD : Drawn L) {k : Nat} (hk : k < L.length) :
    roomB L = true ∧ roomB (startL L k) = true ∧ startL (startL L k) ((L.length - k) % L.length) = L ∧ isCorV L (gx L k) (gy L k) = (k : Int) ∧
      cX L (k : Int) = gx L k ∧ cY L (k : Int) = gy L k ∧ cX L ((k : Int) - (L.length : Int)) = gx L k ∧ cY L ((k : Int) - (L.length : Int)) = gy L k ∧ cX L ((k : Int) + 1) = gx L (nx L k) ∧ cY L ((k : Int) + 1) = gy L (nx L k) := by
  have hr := hD.facts.1
  have h10 := (roomB_fine hr).1.2
  have hne : (L.length == 0) = false := by simp only [beq_eq_false_iff_ne]; omega
  have hix : ∀ q : Int, -1000 ≤ q → q ≤ 1000 → cX L q = gx L (q % (L.length : Int)).toNat ∧ cY L q = gy L (q % (L.length : Int)).toNat := fun q h1 h2 => by
    have e : cOk L q = true := by simp [cOk, hne, inB]; omega
    unfold cX cY cIdx
    rw [if_pos e, if_pos e]
    exact ⟨rfl, rfl⟩
  have m1 : ((k : Int) % (L.length : Int)).toNat = k := by rw [Int.emod_eq_of_lt (by omega) (by omega)]; omega
  have m2 : (((k : Int) - (L.length : Int)) % (L.length : Int)).toNat = k := by rw [Int.sub_emod_right]; exact m1
  have m3 : (((k : Int) + 1) % (L.length : Int)).toNat = nx L k := by unfold nx; rw [show ((k : Int) + 1) = ((k + 1 : Nat) : Int) by omega, ← Int.natCast_emod, Int.toNat_natCast]
  refine ⟨hr, room_start hk hr, start_start hk, ?_, ?_, ?_, ?_, ?_, ?_, ?_⟩
  · unfold isCorV
    refine firstC_at L _ _ L.length 0 k (by omega) (by omega) (fun j _ hj => ?_) (by simp)
    rw [Bool.and_eq_false_iff, beq_eq_false_iff_ne, beq_eq_false_iff_ne]
    have h := nodup_getD (d := ((0, 0) : Int × Int)) (room_nodup hr) (show j < L.length by omega) hk
    by_cases e1 : gx L j = gx L k
    · refine .inr fun e2 => ?_
      have := h (Prod.ext e1 e2)
      omega
    · exact .inl e1
  · rw [(hix _ (by omega) (by omega)).1, m1]
  · rw [(hix _ (by omega) (by omega)).2, m1]
  · rw [(hix _ (by omega) (by omega)).1, m2]
  · rw [(hix _ (by omega) (by omega)).2, m2]
  · rw [(hix _ (by omega) (by omega)).1, m3]
  · rw [(hix _ (by omega) (by omega)).2, m3]

end Go.Proofs.YtkdhgngpapfkdaaDoor
