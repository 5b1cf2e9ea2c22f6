/- Walks: order.right, Check, at, Compare. Printed by genTpB.py. -/
import Derived.Test.YtbbdglikdogmhaaTpA
import Derived.Test.YtbbdglikdogmhaaTpK
import Derived.Test.YtbbdglikdogmhaaRcE
namespace Go.Proofs.Ytbbdglikdogmhaa
open Go.RowKit
set_option maxRecDepth 100000
set_option linter.unusedVariables false
set_option linter.unusedSimpArgs false
set_option linter.unnecessarySimpa false

theorem size_ky : (Try.prog.info? 75).map (·.size) = some 3 := by kernel_rfl
theorem one_ky (k : Ky) : (kyC k).toArray.all (·.oneCell') = true := all_oneCell_toArray (by intro u hu; simp [kyC] at hu; rcases hu with rfl | rfl | rfl <;> rfl)
theorem wp_store_ky {ops : Array Oper} {rest : List Oper} {op : Oper} {a : Act} {w : World} {Q : Exit → Act → World → Prop} (hgd : op.guard = none) (x y : Operand) (ho : op.op = .store 75 x y) (g : Nat) (k : Ky)
    (hx : a.eval x = .pointer (some ⟨g, 0, none⟩)) (hy : a.eval y = k.val) (ht : w.there g 0 3) (h : wpList Try.prog ops Q rest (a.put op.dst undef) (w.setCells g 0 (kyC k))) : wpList Try.prog ops Q (op :: rest) a w :=
  wpList_store_mid hgd 75 x y ho g 0 (kyC k).toArray hx hy ht size_ky (one_ky k) h
theorem wp_load_ky {ops : Array Oper} {rest : List Oper} {op : Oper} {a : Act} {w : World} {Q : Exit → Act → World → Prop} (hgd : op.guard = none) (x : Operand) (ho : op.op = .load 75 x) (g o : Nat) (k : Ky)
    (hx : a.eval x = .pointer (some ⟨g, o, none⟩)) (hc : w.rangeAt g o (kyC k)) (h : wpList Try.prog ops Q rest (a.put op.dst k.val) w) : wpList Try.prog ops Q (op :: rest) a w :=
  wpList_load_mid hgd 75 x ho g o hx (kyC k) _ hc Try.underlying75 rfl size_ky h
theorem there_new3K (w : World) (a b c : Value) (t : TypeId) : (w.alloc (.cells #[a, b, c] t)).there w.heap.size 0 3 := by
  intro j hj
  rcases (by omega : j = 0 ∨ j = 1 ∨ j = 2) with rfl | rfl | rfl <;> simp [go_sem]
theorem kyMade (w : World) (k : Ky) (t : TypeId) : (w.alloc (.cells #[.int .i64 k.col, .int .i64 k.coll, .bool k.desc] t)).rangeAt w.heap.size 0 (kyC k) := fun j u hu => by
  rw [Nat.zero_add, heap_cell (heap_alloc_new w _)]
  simpa [kyC] using hu

theorem rightKy_any (w : World) (k : Ky) (hk : KyOk k) : Calls Try.prog 39 #[k.val] w fun e w' => e = .returned (.bool (decide (rightK k))) ∧ Below w.heap.size w w' := by
  obtain ⟨W0, hW0⟩ : ∃ W, W = w.alloc (.cells #[.int .i64 k.col, .int .i64 k.coll, .bool k.desc] 75) := ⟨_, rfl⟩
  have hB0 : Below w.heap.size w W0 := by rw [hW0]; exact (Below.refl _ _).alloc (Nat.le_refl _) _
  have hr : W0.rangeAt w.heap.size 0 (kyC k) := by rw [hW0]; exact kyMade w k _
  have c0 := hr 0 _ rfl
  have c1 := hr 1 _ rfl
  rw [Nat.zero_add] at c0 c1
  have HW := Lib.hid hW0
  obtain ⟨a0, a1⟩ := hk.1
  obtain ⟨b0, b1⟩ := hk.2
  clear hW0 hr hk
  unfold Ky.val
  by_cases h0 : 0 ≤ k.col
  · by_cases h1 : k.coll = 0
    · have q1 : (k.coll == 0) = true := by simp [h1]
      have HD := Lib.hid (decide_eq_true (show rightK k from ⟨h0, .inl h1⟩))
      clear h1
      go_enter Try.func39, Try.ntmps39
      go_upto_region 1 with fail
      rw [← HW.out]
      clear HW
      go_wp2_with fail
      go_ret
      exact ⟨by rw [HD.out]; rfl, hB0⟩
    · have q1 : (k.coll == 0) = false := by simp [h1]
      by_cases h2 : k.coll = 1
      · have q2 : (k.coll == 1) = true := by simp [h2]
        have HD := Lib.hid (decide_eq_true (show rightK k from ⟨h0, .inr h2⟩))
        clear h1 h2
        go_enter Try.func39, Try.ntmps39
        go_upto_region 1 with fail
        rw [← HW.out]
        clear HW
        go_wp2_with fail
        go_ret
        exact ⟨by rw [HD.out]; rfl, hB0⟩
      · have q2 : (k.coll == 1) = false := by simp [h2]
        have HD := Lib.hid (decide_eq_false (show ¬ rightK k from fun h => h.2.elim h1 h2))
        clear h1 h2
        go_enter Try.func39, Try.ntmps39
        go_upto_region 1 with fail
        rw [← HW.out]
        clear HW
        go_wp2_with fail
        go_ret
        exact ⟨by rw [HD.out]; rfl, hB0⟩
  · have HD := Lib.hid (decide_eq_false (show ¬ rightK k from fun h => h0 h.1))
    go_enter Try.func39, Try.ntmps39
    go_upto_region 1 with fail
    rw [← HW.out]
    clear HW
    go_wp2_with fail
    go_ret
    exact ⟨by rw [HD.out]; rfl, hB0⟩
theorem check1_any (w : World) (k : Ky) (hk : KyOk k) : Calls Try.prog 38 #[k.val] w fun e w' => e = .returned (.bool (!decide (rightK k))) ∧ Below w.heap.size w w' := by
  obtain ⟨W0, hW0⟩ : ∃ W, W = w.alloc (.cells #[.int .i64 k.col, .int .i64 k.coll, .bool k.desc] 75) := ⟨_, rfl⟩
  have hB0 : Below w.heap.size w W0 := by rw [hW0]; exact (Below.refl _ _).alloc (Nat.le_refl _) _
  have HR := Lib.hid (show W0.rangeAt w.heap.size 0 (kyC k) by rw [hW0]; exact kyMade w k _)
  have HW := Lib.hid hW0
  have HK := Lib.hid hk
  clear hW0 hk
  unfold Ky.val
  go_enter Try.func38, Try.ntmps38
  go_upto_region 1 with fail
  rw [← HW.out]
  clear HW
  go_step
  refine wp_load_ky rfl _ rfl w.heap.size 0 k rfl HR.out ?_
  go_wp2_with fail
  refine (rightKy_any _ k HK.out).mono ?_
  rintro e w1 ⟨rfl, hb1⟩
  have hbe := hB0.trans (hb1.mono hB0.size)
  obtain ⟨b, hb⟩ : ∃ b, decide (rightK k) = b := ⟨_, rfl⟩
  rw [hb]
  have HBB := Lib.hid hb
  clear hb hb1
  go_wp2_with fail
  go_ret
  exact ⟨by first | rfl | (rw [HBB.out]; rfl), hbe⟩

set_option maxHeartbeats 8000000 in
theorem indexK_any (w : World) (A : Option Addr) (n c : Nat) (ks : List Ky) (hn : ks.length = n) (hnm : n ≤ maxLen) (hA : RdKy w A ks) (hok : ∀ k ∈ ks, KyOk k) (R : Ending → World → Prop) (hR : R = fun e w' => ∃ z : Int, e = .returned (.int .i64 z) ∧ (0 ≤ z ↔ ∃ k ∈ ks, ¬ rightK k) ∧ Below w.heap.size w w') :
    Calls Try.prog 59 #[.slice A n c, .func (.func 38) #[] #[]] w R := by
  have HR := Lib.hid hR; clear hR
  have HA := Lib.hid hA
  have HN := Lib.hid hn
  have HOK := Lib.hid hok
  have hn63 : n ≤ 9223372036854775807 := by unfold maxLen at hnm; omega
  have hf : ∀ (v : Value) (w : World), (callFunc 38 #[v]).run Try.prog w = .ok (.enter 38 #[v]) w := fun _ _ => by rfl
  clear hA hn hok
  go_enter Try.func59, Try.ntmps59
  go_wp2_with fail
  go_loopw [8] (fun i wr => ∃ j : Nat, j ≤ n ∧ i = .int .i64 j ∧ (∀ d ∈ ks.take j, rightK d) ∧ Below w.heap.size w wr) (fun i _ => n - (intOf i).toNat)
  case atStart => exact ⟨0, Nat.zero_le _, rfl, by simp, Below.refl _ _⟩
  case round =>
    obtain ⟨j, hj, rfl, hno, hb⟩ := hrel
    have HNO := Lib.hid hno
    clear hno
    by_cases hlt : j < n
    · have hjF : j < ks.length := by rw [HN.out]; exact hlt
      have hlt' : (j : Int) < (n : Int) := by omega
      have i0 : (0 : Int) ≤ (j : Int) := by omega
      obtain ⟨b, off, hAe, hcell⟩ := (HA.out.keep hb).at (by omega)
      have HRG := Lib.hid (hcell j hjF)
      have hmem := ky_mem hjF
      have HCT := Lib.hid (show ks.take (j + 1) = ks.take j ++ [ky_ ks j] by rw [List.take_succ_eq_append_getElem hjF, ky_lt hjF])
      obtain ⟨k, hk⟩ : ∃ x, ky_ ks j = x := ⟨_, rfl⟩
      rw [hk] at HRG hmem HCT
      have HKO := Lib.hid (HOK.out k hmem)
      have HM := Lib.hid hmem
      subst hAe
      clear hcell hk hmem hjF
      go_upto_region 4 with fail
      iterate 13 go_step
      refine wp_load_ky rfl _ rfl b (off + j * 3) k rfl HRG.out ?_
      go_wp2_with fail
      refine (check1_any _ k HKO.out).mono ?_
      rintro e w1 ⟨rfl, hb1⟩
      have hb01 : Below w.heap.size w w1 := hb.trans (hb1.mono hb.size)
      clear hb1
      by_cases hp : rightK k
      · rw [decide_eq_true hp]
        have HP := Lib.hid hp
        clear hp
        go_wp2_with fail
        go_roundw
        case rel =>
          refine ⟨j + 1, by omega, by go_num, fun d hd => ?_, hb01⟩
          rw [HCT.out] at hd
          rcases List.mem_append.1 hd with h | h
          · exact HNO.out d h
          · obtain rfl : d = k := by simpa using h
            exact HP.out
        case measure => simp [intOf]; omega
      · rw [decide_eq_false hp]
        have HP := Lib.hid hp
        clear hp
        go_wp2_with fail
        rw [HR.out]
        exact ⟨j, rfl, ⟨fun _ => ⟨k, HM.out, HP.out⟩, fun _ => by omega⟩, hb01⟩
    · obtain rfl : j = n := by omega
      go_wp2_with fail
      rw [HR.out]
      refine ⟨-1, rfl, ⟨fun h => by omega, fun ⟨d, hd, hp⟩ => ?_⟩, hb⟩
      exact absurd (HNO.out d (by rw [← HN.out, List.take_length]; exact hd)) hp
def allK (ks : List Ky) : Prop := ∀ k ∈ ks, rightK k
theorem ocheck_any (w : World) (A : Option Addr) (n c : Nat) (ks : List Ky) (hn : ks.length = n) (hnm : n ≤ maxLen) (hA : RdKy w A ks) (hok : ∀ k ∈ ks, KyOk k) :
    Calls Try.prog 20 #[.slice A n c] w fun e w' => ∃ z : Int, e = .returned (.int .i64 z) ∧ ((z = 0 ∧ allK ks) ∨ (z = 1 ∧ ¬ allK ks)) ∧ Below w.heap.size w w' := by
  have HI := Lib.hid (indexK_any w A n c ks hn hnm hA hok _ rfl)
  have hc0 : Calls Try.prog 37 #[.slice A n c, .func (.func 38) #[] #[]] w fun e w' => ∃ b : Bool, e = .returned (.bool b) ∧ (b = true ↔ ¬ allK ks) ∧ Below w.heap.size w w' := by
    clear hn hnm hA hok
    go_enter Try.func37, Try.ntmps37
    go_wp2_with fail
    refine HI.out.mono ?_
    rintro e w1 ⟨z, rfl, hz, hb⟩
    have HZ := Lib.hid hz
    clear hz
    go_wp2_with fail
    go_ret
    refine ⟨_, rfl, ?_, hb⟩
    rw [decide_eq_true_iff, HZ.out]
    unfold allK
    refine ⟨fun ⟨k, h1, h2⟩ h => h2 (h k h1), fun h => ?_⟩
    by_cases hx : ∃ k, k ∈ ks ∧ ¬ rightK k
    · exact hx
    · exact absurd (fun k hk => by
        by_cases hy : rightK k
        · exact hy
        · exact absurd ⟨k, hk, hy⟩ hx) h
  have HC := Lib.hid hc0
  clear hn hnm hA hok HI hc0
  go_enter Try.func20, Try.ntmps20
  go_wp2_with fail
  refine HC.out.mono ?_
  rintro e w1 ⟨b, rfl, hb, hb1⟩
  have HB := Lib.hid hb
  clear hb HC
  cases b
  · have HF := Lib.hid (show allK ks from Classical.byContradiction fun h => by have := HB.out.2 h; cases this)
    go_wp2_with fail
    go_ret
    exact ⟨0, rfl, .inl ⟨rfl, HF.out⟩, hb1⟩
  · have HF := Lib.hid (HB.out.1 rfl)
    go_wp2_with fail
    go_ret
    exact ⟨1, rfl, .inr ⟨rfl, HF.out⟩, hb1⟩
theorem at_any (w : World) (A : Option Addr) (n c : Nat) (F : List Vl) (col : Int) (hn : F.length = n) (hnm : n ≤ maxLen) (hA : RdVl w A F) (hc : 0 ≤ col ∧ col ≤ 9223372036854775807) :
    Calls Try.prog 45 #[.slice A n c, .int .i64 col] w fun e w' => e = .returned (vl_ F col.toNat).val ∧ Below w.heap.size w w' := by
  obtain ⟨j, hj⟩ : ∃ j : Nat, col = j := ⟨col.toNat, by omega⟩
  subst hj
  rw [Int.toNat_natCast]
  have HN := Lib.hid hn
  have HA := Lib.hid hA
  have hn63 : n ≤ 9223372036854775807 := by unfold maxLen at hnm; omega
  obtain ⟨W0, hW0⟩ : ∃ W, W = w.alloc (.cells #[.int .i64 0, .int .i64 0, .string ⟨#[]⟩] 49) := ⟨_, rfl⟩
  have hB0 : Below w.heap.size w W0 := by rw [hW0]; exact (Below.refl _ _).alloc (Nat.le_refl _) _
  have HT := Lib.hid (show W0.there w.heap.size 0 3 by rw [hW0]; exact there_new3K w _ _ _ _)
  have HW := Lib.hid hW0
  clear hW0 hn hA
  by_cases hlt : j < n
  · have hlt' : (j : Int) < (n : Int) := by omega
    have i0 : (0 : Int) ≤ (j : Int) := by omega
    have hjF : j < F.length := by rw [HN.out]; exact hlt
    obtain ⟨b, off, hAe, hcell⟩ := (HA.out.keep hB0).at (by omega)
    have HRG := Lib.hid (hcell j hjF)
    subst hAe
    clear hcell hjF
    go_enter Try.func45, Try.ntmps45
    go_upto_region 1 with fail
    rw [← HW.out]
    clear HW
    go_upto_region 2 with fail
    iterate 10 go_step
    refine wp_load_vlm rfl _ rfl b (off + j * 3) (vl_ F j) rfl HRG.out ?_
    refine wp_store_vl rfl _ _ rfl w.heap.size (vl_ F j) rfl rfl HT.out ?_
    repeat go_step
    refine ret_vl rfl rfl (VlAt.stored HT.out _) rfl ?_
    exact ⟨rfl, below_setCellsV hB0 (Nat.le_refl _) _ _⟩
  · have hlt' : ¬ (j : Int) < (n : Int) := by omega
    have HZ := Lib.hid (show vl_ F j = zeroV by
      unfold vl_
      rw [List.getD_eq_getElem?_getD, List.getElem?_eq_none (by rw [HN.out]; omega)]
      rfl)
    go_enter Try.func45, Try.ntmps45
    go_upto_region 1 with fail
    rw [← HW.out]
    clear HW
    go_upto_region 3 with fail
    iterate 4 go_step
    refine wp_store_vl rfl _ _ rfl w.heap.size zeroV rfl rfl HT.out ?_
    repeat go_step
    refine ret_vl rfl rfl (VlAt.stored HT.out _) rfl ?_
    exact ⟨by rw [HZ.out], below_setCellsV hB0 (Nat.le_refl _) _ _⟩

/-! ### rows compared -/
def keyC (k : Ky) (F G : List Vl) : Int := if k.desc then IntKind.i64.wrap (-(cmpV (vl_ F k.col.toNat) (vl_ G k.col.toNat) k.coll)) else cmpV (vl_ F k.col.toNat) (vl_ G k.col.toNat) k.coll
def cmpK : List Ky → List Vl → List Vl → Int
  | [], _, _ => 0
  | k :: ks, F, G => if rightK k then (if keyC k F G ≠ 0 then keyC k F G else cmpK ks F G) else cmpK ks F G
theorem cmpK_drop {ks : List Ky} {j : Nat} (h : j < ks.length) (F G : List Vl) : cmpK (ks.drop j) F G = if rightK (ky_ ks j) then (if keyC (ky_ ks j) F G ≠ 0 then keyC (ky_ ks j) F G else cmpK (ks.drop (j + 1)) F G) else cmpK (ks.drop (j + 1)) F G := by
  rw [List.drop_eq_getElem_cons h, ky_lt h]
  rfl
theorem vl_ok {F : List Vl} (h : ∀ v ∈ F, VOk v) (i : Nat) : VOk (vl_ F i) := by
  by_cases hi : i < F.length
  · exact h _ (vl_mem hi)
  · have e : vl_ F i = zeroV := by
      unfold vl_
      rw [List.getD_eq_getElem?_getD, List.getElem?_eq_none (by omega)]
      rfl
    rw [e]
    exact ⟨⟨by unfold i64K zeroV; simp, by unfold i64K zeroV; simp, fun x hx => by cases hx⟩, Nat.zero_le _⟩

set_option maxHeartbeats 16000000 in
theorem ocompare_any (w : World) (A B C : Option Addr) (n c m d t e0 : Nat) (F G : List Vl) (ks : List Ky) (hn : F.length = n) (hm : G.length = m) (ht : ks.length = t) (hnm : n ≤ maxLen) (hmm : m ≤ maxLen) (htm : t ≤ maxLen) (hA : RdVl w A F) (hB : RdVl w B G) (hC : RdKy w C ks) (hF : ∀ v ∈ F, VOk v) (hG : ∀ v ∈ G, VOk v) (hK : ∀ k ∈ ks, KyOk k) :
    Calls Try.prog 23 #[.slice A n c, .slice B m d, .slice C t e0] w fun e w' => e = .returned (.int .i64 (cmpK ks F G)) ∧ Below w.heap.size w w' := by
  have HN := Lib.hid hn
  have HM := Lib.hid hm
  have HT := Lib.hid ht
  have HA := Lib.hid hA
  have HB := Lib.hid hB
  have HC := Lib.hid hC
  have HF := Lib.hid hF
  have HG := Lib.hid hG
  have HK := Lib.hid hK
  have ht63 : t ≤ 9223372036854775807 := by unfold maxLen at htm; omega
  obtain ⟨Z, hZ⟩ : ∃ z, cmpK ks F G = z := ⟨_, rfl⟩
  rw [hZ]
  have HZ := Lib.hid hZ
  clear hn hm ht hA hB hC hF hG hK hZ
  go_enter Try.func23, Try.ntmps23
  go_wp2_with fail
  go_loopw [12] (fun iv wr => ∃ j : Nat, j ≤ t ∧ iv = .int .i64 (j : Int) ∧ cmpK (ks.drop j) F G = Z ∧ Below w.heap.size w wr) (fun i _ => t - (intOf i).toNat)
  case atStart => exact ⟨0, Nat.zero_le _, rfl, by rw [List.drop_zero]; exact HZ.out, Below.refl _ _⟩
  case round =>
    obtain ⟨j, hj, rfl, hz, hb⟩ := hrel
    have HZj := Lib.hid hz
    clear hz
    by_cases hlt : j < t
    · have hjF : j < ks.length := by rw [HT.out]; exact hlt
      have hlt' : (j : Int) < (t : Int) := by omega
      have i0 : (0 : Int) ≤ (j : Int) := by omega
      obtain ⟨b, off, hCe, hcell⟩ := (HC.out.keep hb).at (by omega)
      have HRG := Lib.hid (hcell j hjF)
      have HST := Lib.hid (cmpK_drop hjF F G)
      have hko := HK.out _ (ky_mem hjF)
      obtain ⟨k, hk⟩ : ∃ x, ky_ ks j = x := ⟨_, rfl⟩
      rw [hk] at HRG HST hko
      have HKO := Lib.hid hko
      obtain ⟨kc0, kc1⟩ := hko.1
      subst hCe
      clear hcell hk hjF hko
      go_upto_region 3 with fail
      iterate 4 go_step
      refine wp_load_ky rfl _ rfl b (off + j * 3) k rfl HRG.out ?_
      iterate 3 go_step
      obtain ⟨W1, hW1⟩ : ∃ W, W = wr.alloc (.cells #[.int .i64 0, .int .i64 0, .bool false] 75) := ⟨_, rfl⟩
      have hb1 : Below wr.heap.size wr W1 := by rw [hW1]; exact (Below.refl _ _).alloc (Nat.le_refl _) _
      have HT1 := Lib.hid (show W1.there wr.heap.size 0 3 by rw [hW1]; exact there_new3K wr _ _ _ _)
      rw [← hW1]
      clear hW1
      refine wp_store_ky rfl _ _ rfl wr.heap.size k rfl rfl HT1.out ?_
      obtain ⟨w2, hw2⟩ : ∃ W, W = W1.setCells wr.heap.size 0 (kyC k) := ⟨_, rfl⟩
      have HR2 := Lib.hid (show w2.rangeAt wr.heap.size 0 (kyC k) by rw [hw2]; exact World.rangeAt_setCells_same _ _ _ _ HT1.out)
      have hb2 : Below wr.heap.size wr w2 := by rw [hw2]; exact below_setCellsV hb1 (Nat.le_refl _) _ _
      have hb02 : Below w.heap.size w w2 := hb.trans (hb2.mono hb.size)
      rw [← hw2]
      obtain ⟨g, hg⟩ : ∃ x, wr.heap.size = x := ⟨_, rfl⟩
      rw [hg] at HR2 ⊢
      clear hw2 hb1 hb2 HT1 hg HRG
      go_upto_region 4 with fail
      go_step
      refine wp_load_ky rfl _ rfl g 0 k rfl HR2.out ?_
      go_wp2_with fail
      refine (rightKy_any _ k HKO.out).mono ?_
      rintro e w3 ⟨rfl, hb3⟩
      have hb03 : Below w.heap.size w w3 := hb02.trans (hb3.mono hb02.size)
      have hg2 : g < w2.heap.size := World.block_lt_of_cell? w2 ⟨g, 0 + 0, none⟩ (HR2.out 0 _ rfl)
      have HR3 := Lib.hid (rangeAt_keep HR2.out hb3)
      clear hb3 HR2
      by_cases hp : rightK k
      case neg =>
        rw [decide_eq_false hp]
        have HNX := Lib.hid (show cmpK (ks.drop (j + 1)) F G = Z by have := HST.out; rw [if_neg hp] at this; rw [← this]; exact HZj.out)
        clear hp
        go_wp2_with fail
        go_roundw
        case rel => exact ⟨j + 1, by omega, by go_num, HNX.out, hb03⟩
        case measure => simp [intOf]; omega
      rw [decide_eq_true hp]
      have HRK := Lib.hid hp
      have hcol : 0 ≤ k.col := hp.1
      clear hp
      have F0 : ∀ W : World, Below w3.heap.size w3 W → W.cell? ⟨g, 0, none⟩ = some (.int .i64 k.col) := fun W hW => by have := rangeAt_keep HR3.out hW 0 _ rfl; rwa [Nat.zero_add] at this
      have F1 : ∀ W : World, Below w3.heap.size w3 W → W.cell? ⟨g, 1, none⟩ = some (.int .i64 k.coll) := fun W hW => by have := rangeAt_keep HR3.out hW 1 _ rfl; rwa [Nat.zero_add] at this
      go_upto_region 5 with fail
      refine wp_region_held_drew (S := (fun W => Below w3.heap.size w3 W)) (by kernel_rfl) ?_ (fun hHeld => ?_)
      · exact (Below.refl _ w3).drew
      refine' wpAnyH_take (i := 0) (oi := _) (v := _) rfl (by kernel_rfl) (by kernel_rfl) (by kernel_rfl) (fun _ _ _ h => h) (Or.inl ⟨by rfl, ?hz1⟩) (by assumption) ?rezt1
      case hz1 => (intro w' hSw; (try dsimp only at hSw); go_simp; try with_reducible rfl)
      try simp only [Act.put, List.setIfInBounds_toArray, List.set_cons_zero, List.set_cons_succ, List.getElem_toArray, List.getElem_cons_zero, List.getElem_cons_succ]
      refine' wpAnyH_take (i := 1) (oi := _) (v := _) rfl (by kernel_rfl) (by kernel_rfl) (by kernel_rfl) (fun _ _ _ h => h) (Or.inl ⟨by rfl, ?hz2⟩) (by assumption) ?rezt2
      case hz2 => (intro w' hSw; (try dsimp only at hSw); go_simp; try with_reducible rfl)
      try simp only [Act.put, List.setIfInBounds_toArray, List.set_cons_zero, List.set_cons_succ, List.getElem_toArray, List.getElem_cons_zero, List.getElem_cons_succ]
      refine' wpAnyH_take (i := 2) (oi := _) (v := _) rfl (by kernel_rfl) (by kernel_rfl) (by kernel_rfl) (fun _ _ _ h => h) (Or.inl ⟨by rfl, ?hz3⟩) (by assumption) ?rezt3
      case hz3 => (intro w' hSw; (try dsimp only at hSw); go_simp; try with_reducible rfl)
      try simp only [Act.put, List.setIfInBounds_toArray, List.set_cons_zero, List.set_cons_succ, List.getElem_toArray, List.getElem_cons_zero, List.getElem_cons_succ]
      refine' wpAnyH_take (i := 4) (oi := _) (v := _) rfl (by kernel_rfl) (by kernel_rfl) (by kernel_rfl) (fun _ _ _ h => h) (Or.inl ⟨by rfl, ?hz4⟩) (by assumption) ?rezt4
      case hz4 => (intro w' hSw; (try dsimp only at hSw); go_simp; try with_reducible rfl)
      try simp only [Act.put, List.setIfInBounds_toArray, List.set_cons_zero, List.set_cons_succ, List.getElem_toArray, List.getElem_cons_zero, List.getElem_cons_succ]
      refine' wpAnyH_take (i := 5) (oi := _) (v := _) rfl (by kernel_rfl) (by kernel_rfl) (by kernel_rfl) (fun _ _ _ h => h) (Or.inl ⟨by rfl, ?hz5⟩) (by assumption) ?rezt5
      case hz5 => (intro w' hSw; (try dsimp only at hSw); go_simp; try with_reducible rfl)
      try simp only [Act.put, List.setIfInBounds_toArray, List.set_cons_zero, List.set_cons_succ, List.getElem_toArray, List.getElem_cons_zero, List.getElem_cons_succ]
      refine' wpAnyH_take (i := 6) (oi := _) (v := _) rfl (by kernel_rfl) (by kernel_rfl) (by kernel_rfl) (fun _ _ _ h => h) (Or.inl ⟨by rfl, ?hz6⟩) (by assumption) ?rezt6
      case hz6 => (intro w' hSw; (try dsimp only at hSw); go_simp; try with_reducible rfl)
      try simp only [Act.put, List.setIfInBounds_toArray, List.set_cons_zero, List.set_cons_succ, List.getElem_toArray, List.getElem_cons_zero, List.getElem_cons_succ]
      refine' wpAnyH_take (i := 8) (oi := _) (v := _) rfl (by kernel_rfl) (by kernel_rfl) (by kernel_rfl) (fun _ _ _ h => h) (Or.inl ⟨by rfl, ?hz7⟩) (by assumption) ?rezt7
      case hz7 => (intro w' hSw; (try dsimp only at hSw); go_simp; try with_reducible rfl)
      try simp only [Act.put, List.setIfInBounds_toArray, List.set_cons_zero, List.set_cons_succ, List.getElem_toArray, List.getElem_cons_zero, List.getElem_cons_succ]
      refine' wpAnyH_take (i := 9) (oi := _) (v := _) rfl (by kernel_rfl) (by kernel_rfl) (by kernel_rfl) (fun _ _ _ h => h) (Or.inl ⟨by rfl, ?hz8⟩) (by assumption) ?rezt8
      case hz8 => (intro w' hSw; (try dsimp only at hSw); go_simp; try with_reducible rfl)
      try simp only [Act.put, List.setIfInBounds_toArray, List.set_cons_zero, List.set_cons_succ, List.getElem_toArray, List.getElem_cons_zero, List.getElem_cons_succ]
      refine wpAnyH_ready (rs := [3]) (by kernel_rfl) (by simp) ?_
      refine AllReadyH.cons (o := _) rfl (fun K hK => ?_) AllReadyH.nil
      go_simp
      have hbd : Below w3.heap.size w3 w3.drew := (Below.refl _ w3).drew
      go_at_call 45
      refine (at_any _ A n c F k.col HN.out hnm (HA.out.keep (hb03.trans (hbd.mono hb03.size))) ⟨hcol, kc1⟩).mono ?_
      rintro e w4 ⟨rfl, hb4⟩
      have hb34 : Below w3.heap.size w3 w4 := hbd.trans (hb4.mono hbd.size)
      clear hb4 hbd
      refine hK.out _ _ ?_ (fun hHeld => ?_)
      · exact hb34
      clear hK K
      try simp only [Act.put, List.setIfInBounds_toArray, List.set_cons_zero, List.set_cons_succ, List.getElem_toArray, List.getElem_cons_zero, List.getElem_cons_succ]
      refine wpAnyH_ready (rs := [7]) (by kernel_rfl) (by simp) ?_
      refine AllReadyH.cons (o := _) rfl (fun K hK => ?_) AllReadyH.nil
      go_simp
      go_at_call 45
      refine (at_any _ B m d G k.col HM.out hmm (HB.out.keep (hb03.trans (hb34.mono hb03.size))) ⟨hcol, kc1⟩).mono ?_
      rintro e w5 ⟨rfl, hb5⟩
      have hb35 : Below w3.heap.size w3 w5 := hb34.trans (hb5.mono hb34.size)
      clear hb5
      refine hK.out _ _ ?_ (fun hHeld => ?_)
      · exact hb35
      clear hK K
      try simp only [Act.put, List.setIfInBounds_toArray, List.set_cons_zero, List.set_cons_succ, List.getElem_toArray, List.getElem_cons_zero, List.getElem_cons_succ]
      refine wpAnyH_ready (rs := [10]) (by kernel_rfl) (by simp) ?_
      refine AllReadyH.cons (o := _) rfl (fun K hK => ?_) AllReadyH.nil
      go_simp
      go_at_call 44
      refine (vcmp_any _ (vl_ F k.col.toNat) (vl_ G k.col.toNat) k.coll (vl_ok HF.out _) (vl_ok HG.out _)).mono ?_
      rintro e w6 ⟨rfl, hb6⟩
      have hb36 : Below w3.heap.size w3 w6 := hb35.trans (hb6.mono hb35.size)
      clear hb6
      refine hK.out _ _ ?_ (fun hHeld => ?_)
      · exact hb36
      clear hK K
      try simp only [Act.put, List.setIfInBounds_toArray, List.set_cons_zero, List.set_cons_succ, List.getElem_toArray, List.getElem_cons_zero, List.getElem_cons_succ]
      refine' wpAnyH_take (i := 11) (oi := _) (v := _) rfl (by kernel_rfl) (by kernel_rfl) (by kernel_rfl) (fun _ _ _ h => h) (Or.inl ⟨by rfl, ?hz9⟩) (by assumption) ?rezt9
      case hz9 => (intro w' hSw; (try dsimp only at hSw); go_simp; try with_reducible rfl)
      try simp only [Act.put, List.setIfInBounds_toArray, List.set_cons_zero, List.set_cons_succ, List.getElem_toArray, List.getElem_cons_zero, List.getElem_cons_succ]
      refine wpAnyH_done (by kernel_rfl) ?_ _
      have hb06 : Below w.heap.size w w6 := hb03.trans (hb36.mono hb03.size)
      obtain ⟨x, hx⟩ : ∃ x, cmpV (vl_ F k.col.toNat) (vl_ G k.col.toNat) k.coll = x := ⟨_, rfl⟩
      rw [hx]
      have HX := Lib.hid hx
      have m2 : w6.cell? ⟨g, 2, none⟩ = some (.bool k.desc) := by have := rangeAt_keep HR3.out hb36 2 _ rfl; rwa [Nat.zero_add] at this
      clear F0 F1 hx
      obtain ⟨dsc, hdsc⟩ : ∃ x, k.desc = x := ⟨_, rfl⟩
      rw [hdsc] at m2
      have HDS := Lib.hid hdsc
      clear hdsc
      cases dsc
      · have HKC := Lib.hid (show keyC k F G = x by unfold keyC; rw [if_neg (by rw [HDS.out]; simp), HX.out])
        by_cases h0 : x = 0
        · have q : (x != 0) = false := by simp [h0]
          have HNX := Lib.hid (show cmpK (ks.drop (j + 1)) F G = Z by have := HST.out; rw [if_pos HRK.out, HKC.out, if_neg (by simp [h0])] at this; rw [← this]; exact HZj.out)
          clear h0
          go_wp2_with fail
          go_roundw
          case rel => exact ⟨j + 1, by omega, by go_num, HNX.out, hb06⟩
          case measure => simp [intOf]; omega
        · have q : (x != 0) = true := by simp [h0]
          have HFIN := Lib.hid (show x = Z by have := HST.out; rw [if_pos HRK.out, HKC.out, if_pos h0] at this; rw [← this]; exact HZj.out)
          clear h0
          go_wp2_with fail
          go_ret
          exact ⟨by rw [← HFIN.out]; rfl, hb06⟩
      · obtain ⟨y, hy⟩ : ∃ y, IntKind.i64.wrap (-x) = y := ⟨_, rfl⟩
        have HKC := Lib.hid (show keyC k F G = y by unfold keyC; rw [if_pos HDS.out, HX.out]; exact hy)
        by_cases h0 : y = 0
        · have q : (y != 0) = false := by simp [h0]
          have HNX := Lib.hid (show cmpK (ks.drop (j + 1)) F G = Z by have := HST.out; rw [if_pos HRK.out, HKC.out, if_neg (by simp [h0])] at this; rw [← this]; exact HZj.out)
          clear h0
          go_wp2_with fail
          go_roundw
          case rel => exact ⟨j + 1, by omega, by go_num, HNX.out, hb06⟩
          case measure => simp [intOf]; omega
        · have q : (y != 0) = true := by simp [h0]
          have HFIN := Lib.hid (show y = Z by have := HST.out; rw [if_pos HRK.out, HKC.out, if_pos h0] at this; rw [← this]; exact HZj.out)
          clear h0
          go_wp2_with fail
          go_ret
          exact ⟨by rw [← HFIN.out]; rfl, hb06⟩
    · obtain rfl : j = t := by omega
      have HFIN := Lib.hid (show (0 : Int) = Z by have := HZj.out; rw [← HT.out, List.drop_length] at this; exact this)
      go_wp2_with fail
      go_ret
      exact ⟨by rw [← HFIN.out]; rfl, hb⟩
end Go.Proofs.Ytbbdglikdogmhaa
