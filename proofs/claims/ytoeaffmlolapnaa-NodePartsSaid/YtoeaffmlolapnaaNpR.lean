/- Several texts of this proof as one: NdO, NdP, NdQ, NdV. Laid by merge.py. -/
import Derived.Test.YtoeaffmlolapnaaNpA
import Derived.Test.YtoeaffmlolapnaaNpB
import Derived.Test.YtoeaffmlolapnaaNpC
import Derived.Test.YtoeaffmlolapnaaNpD
import Derived.Test.YtoeaffmlolapnaaNpE
import Derived.Test.YtoeaffmlolapnaaNpF
import Derived.Test.YtoeaffmlolapnaaNpG
import Derived.Test.YtoeaffmlolapnaaNpH
import Derived.Test.YtoeaffmlolapnaaNpI
import Derived.Test.YtoeaffmlolapnaaNpJ
import Derived.Test.YtoeaffmlolapnaaNpK
import Derived.Test.YtoeaffmlolapnaaNpL
import Derived.Test.YtoeaffmlolapnaaNpM
import Derived.Test.YtoeaffmlolapnaaNpN
import Derived.Test.YtoeaffmlolapnaaNpO
import Derived.Test.YtoeaffmlolapnaaNpP
import Derived.Test.YtoeaffmlolapnaaNpQ
import Derived.ArgAppend
import Derived.BigQuiet
import Derived.ChangeOld
import Derived.Deep.DeepCutAuto
import Derived.Deep.Matrix
import Derived.Deep.MidRow
import Derived.Deep.QuietTactic
import Derived.Deep.RegionHeld3
import Derived.Deep.Slices
import Derived.Handy
import Derived.Laws.CopyOwn
import Derived.Laws.Externs
import Derived.Laws.ResultCell
import Derived.Lib.AppendStr
import Derived.Lib.Hide
import Derived.Lib.MakeNoZero
import Derived.Lib.SlBuf
import Derived.Lib.SliceRun
import Derived.Lib.SmallJoins
import Derived.Maps.AppendAt
import Derived.OpenShut
import Derived.ProofKit
import Derived.ShutString
import Derived.SizedLaws
import Derived.Test.YtoeaffmlolapnaaProg
import Derived.WalkKit
import Derived.WalkSpells
namespace Go.Proofs.Ytoeaffmlolapnaa
section
open Go.RowKit
set_option maxRecDepth 100000
set_option linter.unusedVariables false
set_option linter.unusedSimpArgs false
set_option linter.unnecessarySimpa false
theorem OwnCl.lit0 (w : World) (lo base : Nat) (hb : base ≤ w.heap.size) : OwnCl (w.alloc (.cells #[] 55)) lo base (some ⟨w.heap.size, 0, none⟩) 0 0 [] :=
  ⟨rfl, [], ⟨rfl, .inr ⟨w.heap.size, 0, #[], rfl, hb, heap_alloc_new w _, Nat.le_refl _, by unfold maxLen; omega, rfl, rfl⟩⟩, rfl, fun i hi => by simp at hi⟩
theorem Ou.put {w W : World} {t : Nat} (h0 : w.heap.size + 4 ≤ t) (ht : W.there t 0 3) (hy : TyAt W t 69) (m : Nd) (A : Option Addr) (c : Nat) : Ou w (W.setCells t 0 (ndC m A c)) t m A c := by
  have hl : t < W.heap.size := by obtain ⟨cur, fr, h⟩ := hy; exact (Array.getElem?_eq_some_iff.1 h).1
  exact ⟨NdAt.stored ht m A c, World.there_setCells ht _ _ _, TyAt.sets _ _ _ _ hy, h0, by rw [size_setCells]; exact hl⟩
theorem TyAt.same {w w' : World} {t : Nat} {T : TypeId} (e : w'.heap[t]? = w.heap[t]?) (h : TyAt w t T) : TyAt w' t T := by
  obtain ⟨cur, fr, h⟩ := h
  exact ⟨cur, fr, e.trans h⟩
theorem TyAt.lt {w : World} {t : Nat} {T : TypeId} (h : TyAt w t T) : t < w.heap.size := by
  obtain ⟨cur, fr, h⟩ := h
  exact (Array.getElem?_eq_some_iff.1 h).1
theorem wp_append_cl2 {ops : Array Oper} {rest : List Oper} {o : Oper} {a : Act} {w : World} {Q : Exit → Act → World → Prop} (hgd : o.guard = none) (s x : Operand)
    (ho : o.op = .call { callee := .builtin .append, args := #[s, x], argTypes := #[67, 67] })
    (lo base : Nat) (hlb : lo ≤ base) (A : Option Addr) (m c : Nat) (cs : List Cl) (hs : a.eval s = .slice A m c) (hown : OwnCl w lo base A m c cs) (B : Option Addr) (k d : Nat) (cs' : List Cl) (hx : a.eval x = .slice B k d) (hk : cs'.length = k) (hsrc : Src w lo B cs') (hn : m + k ≤ 1000000000) (hbase : base ≤ w.heap.size)
    (h : ∀ A' c' w', OwnCl w' lo base A' (m + k) c' (cs ++ cs') → Below base w w' → (∀ t T, TyAt w t T → T ≠ 55 → w'.heap[t]? = w.heap[t]?) → wpList Try.prog ops Q rest (a.put o.dst (.slice A' (m + k) c')) w') : wpList Try.prog ops Q (o :: rest) a w := by
  obtain ⟨A', c', w', hrun, h2, h3, h4⟩ := run_append_cl2 w o.type lo base hlb A m c cs hown B k d cs' hk hsrc hn hbase
  refine wpList_plain hgd fun K hK => ?_
  unfold Oper.wp execOp
  simp only [ho, resolve, invoke, builtin, Sem.run_bind, Sem.run_pure, Result.andThen_ok, List.map_toArray, List.map_cons, List.map_nil, hs, hx, hrun]
  exact hK _ _ (h A' c' w' h2 h3 h4)
theorem Src.keepJ {w W : World} {B : Option Addr} {cs : List Cl} (h : RdCl w B cs) (hb : Below w.heap.size w W) : Src W w.heap.size B cs := (h.src (Nat.le_refl _)).keep hb
/-- What stands between, in its box. -/
theorem Jn.srcS {w W : World} {a : Nd} {A : Option Addr} {ca : Nat} {s : Cl} {S : Option Addr} {d : Nat} {b : Nd} {B : Option Addr} {cb : Nat} (h : Jn w W a A ca s S d b B cb) (hd : s.loc.length ≤ d) (hm : d ≤ maxLen) : CellVals W w.heap.size [s] (clC s S s.loc.length d) :=
  CellVals.one hd hm (.inl ⟨h.sr, fun x hx hne => (h.sr0.blk hne x hx)⟩)

set_option maxHeartbeats 64000000 in
theorem rjoin_any (w : World) (a : Nd) (A : Option Addr) (ca : Nat) (s : Cl) (S : Option Addr) (d : Nat) (b : Nd) (B : Option Addr) (cb : Nat)
    (ha : fewN a) (hb : fewN b) (hs : s.loc.length ≤ 16384) (oa : NdOk a) (ob : NdOk b) (os : ClOk s) (hd : s.loc.length ≤ d) (hdm : d ≤ maxLen) (hA : RdCl w A a.cs) (hS : Rd w S s.loc) (hB : RdCl w B b.cs) (R : Ending → World → Prop) (hR : R = JoinN w a s b) :
    Calls Try.prog 48 #[a.val A ca, s.val S s.loc.length d, b.val B cb] w R := by
  have HR := Lib.hid hR; clear hR
  have HAF := Lib.hid ha
  have HBF := Lib.hid hb
  have HAO := Lib.hid oa
  have HBO := Lib.hid ob
  have HSO := Lib.hid os
  obtain ⟨W0, hW0⟩ : ∃ W, W = (((w.alloc (.cells #[.int .i64 a.kind, .slice A a.cs.length ca, .int .i64 a.right] 69)).alloc (.cells #[.int .i64 s.key, .int .i64 s.child, .int .i64 s.total, .slice S s.loc.length d, .int .i64 s.spill] 55)).alloc (.cells #[.int .i64 b.kind, .slice B b.cs.length cb, .int .i64 b.right] 69)).alloc (.cells #[.int .i64 0, .slice none 0 0, .int .i64 0] 69) := ⟨_, rfl⟩
  have HJ0 := Lib.hid (Jn.made hA hS hB hW0)
  have HW := Lib.hid hW0
  clear hW0 ha hb oa ob os hA hS hB
  obtain ⟨x0, x1, x2⟩ := HJ0.out.x.all
  obtain ⟨y0, y1, y2⟩ := HJ0.out.y.all
  unfold Nd.val Cl.val
  go_enter Try.func48, Try.ntmps48
  go_upto_region 1 with fail
  rw [← HW.out]
  clear HW
  have hz0 := HJ0.out.sz
  go_step
  refine wp_load_nd rfl _ rfl w.heap.size a A ca rfl HJ0.out.x ?_
  go_wp2_with fail
  refine (rMay_any _ a A ca (by have := HAF.out.1; omega) HAO.out (fun d hd => by have := HAF.out.2 d hd; omega) HJ0.out.xc _ rfl).mono ?_
  rintro e w1 ⟨rfl, hb1⟩
  have HJ1 := Lib.hid (HJ0.out.keep hb1)
  by_cases hma : mayN a
  case neg =>
    have HF := Lib.hid (show ¬ joinOk a s b from fun h => hma h.1.1)
    rw [decide_eq_false hma]
    clear hma x0 x1 x2 y0 y1 y2
    go_upto_region 2 with fail
    iterate 4 go_step
    refine wp_store_nd rfl _ _ rfl (w.heap.size + 3) zeroN none 0 rfl rfl HJ1.out.o ?_
    repeat go_step
    refine ret_nd rfl rfl (NdAt.stored HJ1.out.o zeroN none 0) rfl ?_
    rw [HR.out]
    exact ⟨below_setCellsR HJ1.out.bel (by omega) _ _, .inl ⟨HF.out, rfl⟩⟩
  rw [decide_eq_true hma]
  simp only []
  iterate 7 go_step
  refine wp_load_ndg rfl _ rfl (w.heap.size + 2) b B cb rfl HJ1.out.y ?_
  go_wp2_with fail
  refine (rMay_any _ b B cb (by have := HBF.out.1; omega) HBO.out (fun d hd => by have := HBF.out.2 d hd; omega) HJ1.out.yc _ rfl).mono ?_
  rintro e w2 ⟨rfl, hb2⟩
  have HJ2 := Lib.hid (HJ1.out.keep hb2)
  have hz2 := HJ2.out.sz
  clear hb1 hb2 HJ1 HJ0 x0 x1 x2 y0 y1 y2
  obtain ⟨x0, x1, x2⟩ := HJ2.out.x.all
  obtain ⟨y0, y1, y2⟩ := HJ2.out.y.all
  by_cases hmb : mayN b
  case neg =>
    have HF := Lib.hid (show ¬ joinOk a s b from fun h => hmb h.1.2.1)
    rw [decide_eq_false hmb]
    clear hmb
    go_upto_region 2 with fail
    iterate 4 go_step
    refine wp_store_nd rfl _ _ rfl (w.heap.size + 3) zeroN none 0 rfl rfl HJ2.out.o ?_
    repeat go_step
    refine ret_nd rfl rfl (NdAt.stored HJ2.out.o zeroN none 0) rfl ?_
    rw [HR.out]
    exact ⟨below_setCellsR HJ2.out.bel (by omega) _ _, .inl ⟨HF.out, rfl⟩⟩
  rw [decide_eq_true hmb]
  by_cases hk : a.kind = b.kind
  case neg =>
    have HF := Lib.hid (show ¬ joinOk a s b from fun h => hk h.1.2.2)
    have q1 : (a.kind != b.kind) = true := by simp [hk]
    clear hk
    go_upto_region 2 with fail
    iterate 4 go_step
    refine wp_store_nd rfl _ _ rfl (w.heap.size + 3) zeroN none 0 rfl rfl HJ2.out.o ?_
    repeat go_step
    refine ret_nd rfl rfl (NdAt.stored HJ2.out.o zeroN none 0) rfl ?_
    rw [HR.out]
    exact ⟨below_setCellsR HJ2.out.bel (by omega) _ _, .inl ⟨HF.out, rfl⟩⟩
  have HMAY := Lib.hid (show mayN a ∧ mayN b ∧ a.kind = b.kind from ⟨hma, hmb, hk⟩)
  have q1 : (a.kind != b.kind) = false := by simp [hk]
  clear hk hma hmb
  clear x0 x1 x2 y0 y1 y2
  obtain ⟨x0, x1, x2⟩ := HJ2.out.x.all
  obtain ⟨y0, y1, y2⟩ := HJ2.out.y.all
  go_upto_region 3 with fail
  clear x0 x1 x2 y0 y1 y2
  go_cut [8] from 25 to 33 (fun v wx => ∃ g A3 c3, v = .pointer (some ⟨g, 0, none⟩) ∧ Jn w wx a A ca s S d b B cb ∧ Ou w wx g ⟨a.kind, b.right, a.cs⟩ A3 c3 ∧ OwnCl wx w.heap.size (w.heap.size + 4) A3 a.cs.length c3 a.cs)
  case first =>
    have F0 : ∀ W : World, Jn w W a A ca s S d b B cb → W.cell? ⟨w.heap.size, 0, none⟩ = some (.int .i64 a.kind) := fun W hW => hW.x.all.1
    have F1 : ∀ W : World, Jn w W a A ca s S d b B cb → W.cell? ⟨w.heap.size, 1, none⟩ = some (.slice A a.cs.length ca) := fun W hW => hW.x.all.2.1
    have F2 : ∀ W : World, Jn w W a A ca s S d b B cb → W.cell? ⟨w.heap.size + 2, 2, none⟩ = some (.int .i64 b.right) := fun W hW => hW.y.all.2.2
    refine wp_region_held_drew (S := (fun W => Jn w W a A ca s S d b B cb)) (by kernel_rfl) ?_ (fun hHeld => ?_)
    · exact HJ2.out.keep (Below.refl _ w2).drew
    refine' wpAnyH_take (i := 0) (oi := _) (v := _) rfl (by kernel_rfl) (by kernel_rfl) (by kernel_rfl) (fun _ _ _ h => h) (Or.inl ⟨by rfl, ?hz1⟩) (by assumption) ?rezt1
    case hz1 => (intro w' hSw; (try dsimp only at hSw); go_simp; try with_reducible rfl)
    try simp only [Act.put, List.setIfInBounds_toArray, List.set_cons_zero, List.set_cons_succ, List.getElem_toArray, List.getElem_cons_zero, List.getElem_cons_succ]
    refine' wpAnyH_take (i := 1) (oi := _) (v := _) rfl (by kernel_rfl) (by kernel_rfl) (by kernel_rfl) (fun _ _ _ h => h) (Or.inl ⟨by rfl, ?hz2⟩) (by assumption) ?rezt2
    case hz2 => (intro w' hSw; (try dsimp only at hSw); go_simp; try with_reducible rfl)
    try simp only [Act.put, List.setIfInBounds_toArray, List.set_cons_zero, List.set_cons_succ, List.getElem_toArray, List.getElem_cons_zero, List.getElem_cons_succ]
    refine' wpAnyH_take (i := 3) (oi := _) (v := _) rfl (by kernel_rfl) (by kernel_rfl) (by kernel_rfl) (fun _ _ _ h => h) (Or.inl ⟨by rfl, ?hz3⟩) (by assumption) ?rezt3
    case hz3 => (intro w' hSw; (try dsimp only at hSw); go_simp; try with_reducible rfl)
    try simp only [Act.put, List.setIfInBounds_toArray, List.set_cons_zero, List.set_cons_succ, List.getElem_toArray, List.getElem_cons_zero, List.getElem_cons_succ]
    refine' wpAnyH_take (i := 4) (oi := _) (v := _) rfl (by kernel_rfl) (by kernel_rfl) (by kernel_rfl) (fun _ _ _ h => h) (Or.inl ⟨by rfl, ?hz4⟩) (by assumption) ?rezt4
    case hz4 => (intro w' hSw; (try dsimp only at hSw); go_simp; try with_reducible rfl)
    try simp only [Act.put, List.setIfInBounds_toArray, List.set_cons_zero, List.set_cons_succ, List.getElem_toArray, List.getElem_cons_zero, List.getElem_cons_succ]
    refine' wpAnyH_take (i := 6) (oi := _) (v := _) rfl (by kernel_rfl) (by kernel_rfl) (by kernel_rfl) (fun _ _ _ h => h) (Or.inl ⟨by rfl, ?hz5⟩) (by assumption) ?rezt5
    case hz5 => (intro w' hSw; (try dsimp only at hSw); go_simp; try with_reducible rfl)
    try simp only [Act.put, List.setIfInBounds_toArray, List.set_cons_zero, List.set_cons_succ, List.getElem_toArray, List.getElem_cons_zero, List.getElem_cons_succ]
    refine' wpAnyH_take (i := 7) (oi := _) (v := _) rfl (by kernel_rfl) (by kernel_rfl) (by kernel_rfl) (fun _ _ _ h => h) (Or.inl ⟨by rfl, ?hz6⟩) (by assumption) ?rezt6
    case hz6 => (intro w' hSw; (try dsimp only at hSw); go_simp; try with_reducible rfl)
    try simp only [Act.put, List.setIfInBounds_toArray, List.set_cons_zero, List.set_cons_succ, List.getElem_toArray, List.getElem_cons_zero, List.getElem_cons_succ]
    refine wpAnyH_ready (rs := [2, 9]) (by kernel_rfl) (by simp) ?_
    refine AllReadyH.cons (o := _) rfl (fun K hK => ?_) (AllReadyH.cons (o := _) rfl (fun K hK => ?_) AllReadyH.nil)
    · go_simp
      refine hK.out _ _ ?_ (fun hHeld => ?_)
      · exact HJ2.out.keep ((Below.refl _ w2).alloc (Nat.le_refl _) _).drew
      clear hK K
      try simp only [Act.put, List.setIfInBounds_toArray, List.set_cons_zero, List.set_cons_succ, List.getElem_toArray, List.getElem_cons_zero, List.getElem_cons_succ]
      obtain ⟨wa1, hwa1⟩ : ∃ W, W = (w2.alloc (.cells #[] 55)).drew := ⟨_, rfl⟩
      have hba1 : Below w2.heap.size w2 wa1 := by rw [hwa1]; exact ((Below.refl _ w2).alloc (Nat.le_refl _) _).drew
      have HJa1 := Lib.hid (HJ2.out.keep hba1)
      have HCa1 := Lib.hid (show OwnCl wa1 w.heap.size (w.heap.size + 4) (some ⟨w2.heap.size, 0, none⟩) 0 0 [] by rw [hwa1]; exact (OwnCl.lit0 w2 _ _ HJ2.out.sz).keep (Below.refl _ _).drew)
      rw [← hwa1]
      clear hwa1
      refine wpAnyH_ready (rs := [5, 9]) (by kernel_rfl) (by simp) ?_
      refine AllReadyH.cons (o := _) rfl (fun K hK => ?_) (AllReadyH.cons (o := _) rfl (fun K hK => ?_) AllReadyH.nil)
      · refine step_append_cl2 rfl (.tmp 27) (.tmp 29) rfl w.heap.size (w.heap.size + 4) (by omega) _ 0 0 [] rfl HCa1.out A a.cs.length ca a.cs rfl rfl (Src.keepJ HJa1.out.xc0 HJa1.out.bel) (by have := HAF.out.1; omega) HJa1.out.sz ?_
        intro A3 c3 wa2 hown3 hb3 hty3
        rw [Nat.zero_add, List.nil_append] at hown3
        rw [Nat.zero_add]
        have HJa2 := Lib.hid (HJa1.out.keepB hb3)
        have HCa2 := Lib.hid hown3
        clear hown3 hb3 hty3
        refine hK.out _ _ ?_ (fun hHeld => ?_)
        · exact HJa2.out
        clear hK K
        try simp only [Act.put, List.setIfInBounds_toArray, List.set_cons_zero, List.set_cons_succ, List.getElem_toArray, List.getElem_cons_zero, List.getElem_cons_succ]
        refine' wpAnyH_take (i := 8) (oi := _) (v := _) rfl (by kernel_rfl) (by kernel_rfl) (by kernel_rfl) (fun _ _ _ h => h) (Or.inl ⟨by rfl, ?hz7⟩) (by assumption) ?rezt7
        case hz7 => (intro w' hSw; (try dsimp only at hSw); go_simp; try with_reducible rfl)
        try simp only [Act.put, List.setIfInBounds_toArray, List.set_cons_zero, List.set_cons_succ, List.getElem_toArray, List.getElem_cons_zero, List.getElem_cons_succ]
        refine wpAnyH_ready (rs := [9]) (by kernel_rfl) (by simp) ?_
        refine AllReadyH.cons (o := _) rfl (fun K hK => ?_) AllReadyH.nil
        go_simp
        refine hK.out _ _ ?_ (fun hHeld => ?_)
        · exact HJa2.out.keep ((Below.refl _ wa2).alloc (Nat.le_refl _) _)
        clear hK K
        try simp only [Act.put, List.setIfInBounds_toArray, List.set_cons_zero, List.set_cons_succ, List.getElem_toArray, List.getElem_cons_zero, List.getElem_cons_succ]
        obtain ⟨wa3, hwa3⟩ : ∃ W, W = (wa2.alloc (.cells #[.int .i64 0, .slice none 0 0, .int .i64 0] 69)) := ⟨_, rfl⟩
        have hba3 : Below wa2.heap.size wa2 wa3 := by rw [hwa3]; exact ((Below.refl _ wa2).alloc (Nat.le_refl _) _)
        have HJa3 := Lib.hid (HJa2.out.keep hba3)
        have hlo := HJa2.out.sz
        have HTa3 := Lib.hid (show (wa3).there wa2.heap.size 0 3 by rw [hwa3]; exact there_new3 wa2 _ _ _ _)
        have HYa3 := Lib.hid (show TyAt wa3 wa2.heap.size 69 by rw [hwa3]; exact TyAt.new wa2 _ _)
        have HCa3 := Lib.hid (HCa2.out.keep hba3)
        rw [← hwa3]
        clear hwa3
        refine wpAnyH_ready (rs := [10]) (by kernel_rfl) (by simp) ?_
        refine AllReadyH.cons (o := _) rfl (fun K hK => ?_) AllReadyH.nil
        refine step_store_nd rfl _ _ rfl _ ⟨a.kind, b.right, a.cs⟩ A3 c3 rfl rfl HTa3.out ?_
        refine hK.out _ _ ?_ (fun hHeld => ?_)
        · exact HJa3.out.keepB (below_setCellsR (Below.refl _ _) hlo _ _)
        clear hK K
        try simp only [Act.put, List.setIfInBounds_toArray, List.set_cons_zero, List.set_cons_succ, List.getElem_toArray, List.getElem_cons_zero, List.getElem_cons_succ]
        refine wpAnyH_done (by kernel_rfl) ?_ _
        go_wp2_with fail
        go_meet
        exact ⟨_, A3, c3, rfl, HJa3.out.keepB (below_setCellsR (Below.refl _ _) hlo _ _), Ou.put hlo HTa3.out HYa3.out _ _ _, HCa3.out.ty HYa3.out (by decide) (by decide) (by omega) (fun i hi _ => heap_setCells_ne _ _ _ _ hi)⟩
      · go_simp
        refine hK.out _ _ ?_ (fun hHeld => ?_)
        · exact HJa1.out.keep ((Below.refl _ wa1).alloc (Nat.le_refl _) _)
        clear hK K
        try simp only [Act.put, List.setIfInBounds_toArray, List.set_cons_zero, List.set_cons_succ, List.getElem_toArray, List.getElem_cons_zero, List.getElem_cons_succ]
        obtain ⟨wb2, hwb2⟩ : ∃ W, W = (wa1.alloc (.cells #[.int .i64 0, .slice none 0 0, .int .i64 0] 69)) := ⟨_, rfl⟩
        have hbb2 : Below wa1.heap.size wa1 wb2 := by rw [hwb2]; exact ((Below.refl _ wa1).alloc (Nat.le_refl _) _)
        have HJb2 := Lib.hid (HJa1.out.keep hbb2)
        have hlo := HJa1.out.sz
        have HTb2 := Lib.hid (show (wb2).there wa1.heap.size 0 3 by rw [hwb2]; exact there_new3 wa1 _ _ _ _)
        have HYb2 := Lib.hid (show TyAt wb2 wa1.heap.size 69 by rw [hwb2]; exact TyAt.new wa1 _ _)
        have HCb2 := Lib.hid (HCa1.out.keep hbb2)
        rw [← hwb2]
        clear hwb2
        refine wpAnyH_ready (rs := [5]) (by kernel_rfl) (by simp) ?_
        refine AllReadyH.cons (o := _) rfl (fun K hK => ?_) AllReadyH.nil
        refine step_append_cl2 rfl (.tmp 27) (.tmp 29) rfl w.heap.size (w.heap.size + 4) (by omega) _ 0 0 [] rfl HCb2.out A a.cs.length ca a.cs rfl rfl (Src.keepJ HJb2.out.xc0 HJb2.out.bel) (by have := HAF.out.1; omega) HJb2.out.sz ?_
        intro A3 c3 wb3 hown3 hb3 hty3
        rw [Nat.zero_add, List.nil_append] at hown3
        rw [Nat.zero_add]
        have HJb3 := Lib.hid (HJb2.out.keepB hb3)
        have HCb3 := Lib.hid hown3
        have HTb3 := Lib.hid (there_same (hty3 _ _ HYb2.out (by decide)) HTb2.out)
        have HYb3 := Lib.hid (HYb2.out.same (hty3 _ _ HYb2.out (by decide)))
        clear hown3 hb3 hty3
        refine hK.out _ _ ?_ (fun hHeld => ?_)
        · exact HJb3.out
        clear hK K
        try simp only [Act.put, List.setIfInBounds_toArray, List.set_cons_zero, List.set_cons_succ, List.getElem_toArray, List.getElem_cons_zero, List.getElem_cons_succ]
        refine' wpAnyH_take (i := 8) (oi := _) (v := _) rfl (by kernel_rfl) (by kernel_rfl) (by kernel_rfl) (fun _ _ _ h => h) (Or.inl ⟨by rfl, ?hz8⟩) (by assumption) ?rezt8
        case hz8 => (intro w' hSw; (try dsimp only at hSw); go_simp; try with_reducible rfl)
        try simp only [Act.put, List.setIfInBounds_toArray, List.set_cons_zero, List.set_cons_succ, List.getElem_toArray, List.getElem_cons_zero, List.getElem_cons_succ]
        refine wpAnyH_ready (rs := [10]) (by kernel_rfl) (by simp) ?_
        refine AllReadyH.cons (o := _) rfl (fun K hK => ?_) AllReadyH.nil
        refine step_store_nd rfl _ _ rfl _ ⟨a.kind, b.right, a.cs⟩ A3 c3 rfl rfl HTb3.out ?_
        refine hK.out _ _ ?_ (fun hHeld => ?_)
        · exact HJb3.out.keepB (below_setCellsR (Below.refl _ _) hlo _ _)
        clear hK K
        try simp only [Act.put, List.setIfInBounds_toArray, List.set_cons_zero, List.set_cons_succ, List.getElem_toArray, List.getElem_cons_zero, List.getElem_cons_succ]
        refine wpAnyH_done (by kernel_rfl) ?_ _
        go_wp2_with fail
        go_meet
        exact ⟨_, A3, c3, rfl, HJb3.out.keepB (below_setCellsR (Below.refl _ _) hlo _ _), Ou.put hlo HTb3.out HYb3.out _ _ _, HCb3.out.ty HYb3.out (by decide) (by decide) (by omega) (fun i hi _ => heap_setCells_ne _ _ _ _ hi)⟩
    · go_simp
      refine hK.out _ _ ?_ (fun hHeld => ?_)
      · exact HJ2.out.keep ((Below.refl _ w2).alloc (Nat.le_refl _) _).drew
      clear hK K
      try simp only [Act.put, List.setIfInBounds_toArray, List.set_cons_zero, List.set_cons_succ, List.getElem_toArray, List.getElem_cons_zero, List.getElem_cons_succ]
      obtain ⟨wc1, hwc1⟩ : ∃ W, W = (w2.alloc (.cells #[.int .i64 0, .slice none 0 0, .int .i64 0] 69)).drew := ⟨_, rfl⟩
      have hbc1 : Below w2.heap.size w2 wc1 := by rw [hwc1]; exact ((Below.refl _ w2).alloc (Nat.le_refl _) _).drew
      have HJc1 := Lib.hid (HJ2.out.keep hbc1)
      have hlo := HJ2.out.sz
      have HTc1 := Lib.hid (show (wc1).there w2.heap.size 0 3 by rw [hwc1]; exact there_keepR (there_new3 w2 _ _ _ _) (Below.refl (w2.heap.size + 1) _).drew (Nat.lt_succ_self _))
      have HYc1 := Lib.hid (show TyAt wc1 w2.heap.size 69 by rw [hwc1]; exact (TyAt.new w2 _ _).keepB (Below.refl (w2.heap.size + 1) _).drew (Nat.lt_succ_self _))
      rw [← hwc1]
      clear hwc1
      refine wpAnyH_ready (rs := [2]) (by kernel_rfl) (by simp) ?_
      refine AllReadyH.cons (o := _) rfl (fun K hK => ?_) AllReadyH.nil
      go_simp
      refine hK.out _ _ ?_ (fun hHeld => ?_)
      · exact HJc1.out.keep ((Below.refl _ wc1).alloc (Nat.le_refl _) _)
      clear hK K
      try simp only [Act.put, List.setIfInBounds_toArray, List.set_cons_zero, List.set_cons_succ, List.getElem_toArray, List.getElem_cons_zero, List.getElem_cons_succ]
      obtain ⟨wc2, hwc2⟩ : ∃ W, W = (wc1.alloc (.cells #[] 55)) := ⟨_, rfl⟩
      have hbc2 : Below wc1.heap.size wc1 wc2 := by rw [hwc2]; exact ((Below.refl _ wc1).alloc (Nat.le_refl _) _)
      have HJc2 := Lib.hid (HJc1.out.keep hbc2)
      have HCc2 := Lib.hid (show OwnCl wc2 w.heap.size (w.heap.size + 4) (some ⟨wc1.heap.size, 0, none⟩) 0 0 [] by rw [hwc2]; exact OwnCl.lit0 wc1 _ _ HJc1.out.sz)
      have HTc2 := Lib.hid (there_keepR HTc1.out hbc2 (HYc1.out).lt)
      have HYc2 := Lib.hid (HYc1.out.keepB hbc2 (HYc1.out).lt)
      rw [← hwc2]
      clear hwc2
      refine wpAnyH_ready (rs := [5]) (by kernel_rfl) (by simp) ?_
      refine AllReadyH.cons (o := _) rfl (fun K hK => ?_) AllReadyH.nil
      refine step_append_cl2 rfl (.tmp 27) (.tmp 29) rfl w.heap.size (w.heap.size + 4) (by omega) _ 0 0 [] rfl HCc2.out A a.cs.length ca a.cs rfl rfl (Src.keepJ HJc2.out.xc0 HJc2.out.bel) (by have := HAF.out.1; omega) HJc2.out.sz ?_
      intro A3 c3 wc3 hown3 hb3 hty3
      rw [Nat.zero_add, List.nil_append] at hown3
      rw [Nat.zero_add]
      have HJc3 := Lib.hid (HJc2.out.keepB hb3)
      have HCc3 := Lib.hid hown3
      have HTc3 := Lib.hid (there_same (hty3 _ _ HYc2.out (by decide)) HTc2.out)
      have HYc3 := Lib.hid (HYc2.out.same (hty3 _ _ HYc2.out (by decide)))
      clear hown3 hb3 hty3
      refine hK.out _ _ ?_ (fun hHeld => ?_)
      · exact HJc3.out
      clear hK K
      try simp only [Act.put, List.setIfInBounds_toArray, List.set_cons_zero, List.set_cons_succ, List.getElem_toArray, List.getElem_cons_zero, List.getElem_cons_succ]
      refine' wpAnyH_take (i := 8) (oi := _) (v := _) rfl (by kernel_rfl) (by kernel_rfl) (by kernel_rfl) (fun _ _ _ h => h) (Or.inl ⟨by rfl, ?hz9⟩) (by assumption) ?rezt9
      case hz9 => (intro w' hSw; (try dsimp only at hSw); go_simp; try with_reducible rfl)
      try simp only [Act.put, List.setIfInBounds_toArray, List.set_cons_zero, List.set_cons_succ, List.getElem_toArray, List.getElem_cons_zero, List.getElem_cons_succ]
      refine wpAnyH_ready (rs := [10]) (by kernel_rfl) (by simp) ?_
      refine AllReadyH.cons (o := _) rfl (fun K hK => ?_) AllReadyH.nil
      refine step_store_nd rfl _ _ rfl _ ⟨a.kind, b.right, a.cs⟩ A3 c3 rfl rfl HTc3.out ?_
      refine hK.out _ _ ?_ (fun hHeld => ?_)
      · exact HJc3.out.keepB (below_setCellsR (Below.refl _ _) hlo _ _)
      clear hK K
      try simp only [Act.put, List.setIfInBounds_toArray, List.set_cons_zero, List.set_cons_succ, List.getElem_toArray, List.getElem_cons_zero, List.getElem_cons_succ]
      refine wpAnyH_done (by kernel_rfl) ?_ _
      go_wp2_with fail
      go_meet
      exact ⟨_, A3, c3, rfl, HJc3.out.keepB (below_setCellsR (Below.refl _ _) hlo _ _), Ou.put hlo HTc3.out HYc3.out _ _ _, HCc3.out.ty HYc3.out (by decide) (by decide) (by omega) (fun i hi _ => heap_setCells_ne _ _ _ _ hi)⟩
  case rest =>
    rename World => w4
    obtain ⟨g, A3, c3, rfl, hj4, ho4, hc4⟩ := hcut
    have HJ4 := Lib.hid hj4
    have HO4 := Lib.hid ho4
    have HC4 := Lib.hid hc4
    clear hj4 ho4 hc4
    have hz4 := HJ4.out.sz
    obtain ⟨x0, x1, x2⟩ := HJ4.out.x.all
    have hal := HAF.out.1
    have hbl := HBF.out.1
    by_cases hk1 : a.kind = 1
    · have q2 : (a.kind != 1) = false := by simp [hk1]
      have HK1 := Lib.hid hk1
      clear hk1
      have HJ := HJ4
      have HO := HO4
      have HC := HC4
      obtain ⟨y0, y1, y2⟩ := HJ.out.y.all
      have m1 := HO.out.at_.all.2.1
      have hzj := HJ.out.sz
      go_upto_region 9 with fail
      iterate 13 go_step
      refine wp_append_cl2 rfl (.tmp 53) (.tmp 55) rfl w.heap.size (w.heap.size + 4) (by omega) _ _ _ _ rfl HC.out B b.cs.length cb b.cs rfl rfl (Src.keepJ HJ.out.yc0 HJ.out.bel) (by omega) hzj ?_
      intro A9 c9 w9 hown9 hb9 hty9
      have HJ9 := Lib.hid (HJ.out.keepB hb9)
      have HO9 := Lib.hid (HO.out.same (hty9 g _ HO.out.ty (by decide)))
      have HC9 := Lib.hid hown9
      clear hown9 hb9 hty9 m1 y0 y1 y2
      try clear x0 x1 x2
      have m9 := HO9.out.at_.all.2.1
      have f9 := (HO9.out.there 1 (by decide)).2
      rw [Nat.zero_add] at f9
      obtain ⟨wa, hwa⟩ : ∃ W, W = w9.setCell ⟨g, 1, none⟩ (.slice A9 ((a.cs).length + b.cs.length) c9) := ⟨_, rfl⟩
      have hlen : ((a.cs) ++ b.cs).length = (a.cs).length + b.cs.length := List.length_append
      have HOa := Lib.hid (show Ou w wa g ⟨a.kind, b.right, (a.cs) ++ b.cs⟩ A9 c9 by rw [hwa, ← hlen]; exact HO9.out.setCs _ A9 c9)
      have HJa := Lib.hid (show Jn w wa a A ca s S d b B cb by rw [hwa]; exact HJ9.out.keepB ((Below.refl _ _).setCell (by exact HO9.out.lo) _))
      have HCa := Lib.hid (show OwnCl wa w.heap.size (w.heap.size + 4) A9 ((a.cs) ++ b.cs).length c9 ((a.cs) ++ b.cs) by
        rw [hlen, hwa]
        exact HC9.out.ty HO9.out.ty (by decide) (by decide) (by have := HO9.out.lo; omega) (fun i hi _ => heap_setG_ne _ _ _ hi))
      have HEQ := Lib.hid (show joinM a s b = ⟨a.kind, b.right, a.cs ++ b.cs⟩ by unfold joinM midJ; rw [if_pos HK1.out, List.append_nil])
      have HOK := Lib.hid (show joinOk a s b from ⟨HMAY.out, fun h => absurd HK1.out h⟩)
      have HWA := Lib.hid hwa
      clear hwa hlen
      go_upto_region 10 with fail
      rw [← HWA.out]
      clear HWA HO9 HJ9 HC9 m9 f9
      obtain ⟨mf, hmf⟩ : ∃ x : Nd, (⟨a.kind, b.right, (a.cs) ++ b.cs⟩ : Nd) = x := ⟨_, rfl⟩
      have hcf : (a.cs) ++ b.cs = mf.cs := by rw [← hmf]
      rw [hcf] at HCa
      rw [hmf] at HOa HEQ
      clear hmf hcf
      go_step
      refine wp_load_nd rfl _ rfl g mf A9 c9 rfl HOa.out.at_ ?_
      refine wp_store_nd rfl _ _ rfl (w.heap.size + 3) mf A9 c9 rfl rfl HJa.out.o ?_
      repeat go_step
      refine ret_nd rfl rfl (NdAt.stored HJa.out.o mf A9 c9) rfl ?_
      rw [HR.out]
      refine ⟨below_setCellsR HJa.out.bel (by omega) _ _, .inr ⟨HOK.out, A9, c9, by rw [HEQ.out]; rfl, ?_⟩⟩
      rw [HEQ.out]
      exact (HCa.out.mono (show w.heap.size ≤ w.heap.size + 4 by omega)).ty HJa.out.oty (by decide) (by decide) (by omega) (fun i hi _ => heap_setCells_ne _ _ _ _ hi)
    · have q2 : (a.kind != 1) = true := by simp [hk1]
      have HK1 := Lib.hid hk1
      clear hk1
      have c1 := HJ4.out.sg 1 _ rfl
      rw [Nat.zero_add] at c1
      have f1 := (HJ4.out.st 1 (by decide)).2
      rw [Nat.zero_add] at f1
      obtain ⟨w5, hw5⟩ : ∃ W, W = w4.setCell ⟨w.heap.size + 1, 1, none⟩ (.int .i64 a.right) := ⟨_, rfl⟩
      have HJ5 := Lib.hid (show Jn w w5 a A ca (sepOf a s) S d b B cb by rw [hw5]; exact HJ4.out.setS a.right)
      have HO5 := Lib.hid (show Ou w w5 g ⟨a.kind, b.right, a.cs⟩ A3 c3 by rw [hw5]; exact HO4.out.same (heap_setG_ne _ _ _ (by have := HO4.out.lo; show g ≠ w.heap.size + 1; omega)))
      have HC5 := Lib.hid (show OwnCl w5 w.heap.size (w.heap.size + 4) A3 a.cs.length c3 a.cs by rw [hw5]; exact HC4.out.low HJ4.out.sty (by omega) (by decide) (by omega) (fun i hi _ => heap_setG_ne _ _ _ hi))
      have HW5 := Lib.hid hw5
      clear hw5
      go_upto_region 6 with fail
      rw [← HW5.out]
      clear HW5 c1 f1 x0 x1 x2
      obtain ⟨x0, x1, x2⟩ := HJ5.out.x.all
      iterate 7 go_step
      refine wp_load_clo rfl _ rfl (w.heap.size + 1) 0 (sepOf a s) S (sepOf a s).loc.length d rfl HJ5.out.sg ?_
      go_wp2_with fail
      refine (rcheckC_any _ a.kind (sepOf a s) S (sepOf a s).loc.length d ⟨HSO.out.1.1, HAO.out.2.1, HSO.out.1.2.2.1, HSO.out.1.2.2.2⟩ (by show (s.loc.length : Int) ≤ _; omega)).mono ?_
      rintro e w6 ⟨rfl, hb6⟩
      have HJ6 := Lib.hid (HJ5.out.keep hb6)
      have HO6 := Lib.hid (HO5.out.keep hb6)
      have HC6 := Lib.hid (HC5.out.keep hb6)
      have hz6 := HJ6.out.sz
      clear hb6 HJ5 HO5 HC5 HJ4 HO4 HC4 x0 x1 x2
      unfold checkZ
      by_cases hg : goodC a.kind (sepOf a s) (sepOf a s).loc.length
      case neg =>
        have HF := Lib.hid (show ¬ joinOk a s b from fun h => hg (h.2 HK1.out))
        rw [if_neg hg]
        clear hg
        go_upto_region 7 with fail
        iterate 4 go_step
        refine wp_store_nd rfl _ _ rfl (w.heap.size + 3) zeroN none 0 rfl rfl HJ6.out.o ?_
        repeat go_step
        refine ret_nd rfl rfl (NdAt.stored HJ6.out.o zeroN none 0) rfl ?_
        rw [HR.out]
        exact ⟨below_setCellsR HJ6.out.bel (by omega) _ _, .inl ⟨HF.out, rfl⟩⟩
      have HG := Lib.hid hg
      rw [if_pos hg]
      clear hg
      have m1 := HO6.out.at_.all.2.1
      go_upto_region 8 with fail
      iterate 7 go_step
      clear m1
      refine wp_load_clg5 rfl _ rfl (w.heap.size + 1) (sepOf a s) S s.loc.length d rfl HJ6.out.sg ?_
      iterate 3 go_step
      have hba : Below w6.heap.size w6 (w6.alloc (.cells #[.int .i64 s.key, .int .i64 a.right, .int .i64 s.total, .slice S s.loc.length d, .int .i64 s.spill] 55)) := (Below.refl _ _).alloc (Nat.le_refl _) _
      have HJb := Lib.hid (HJ6.out.keep hba)
      have HOb := Lib.hid (HO6.out.keep hba)
      have hzb := HJb.out.sz
      refine wp_append_cl2 rfl (.tmp 47) (.tmp 49) rfl w.heap.size (w.heap.size + 4) (by omega) _ _ _ _ rfl (HC6.out.keep hba) _ 1 1 [sepOf a s] rfl rfl (.inr ⟨_, 0, clC (sepOf a s) S s.loc.length d, rfl, fun t u hu => by
        rw [Nat.zero_add, heap_cell (heap_alloc_new w6 _)]
        simpa [clC, sepOf] using hu, HJb.out.srcS hd hdm⟩) (by omega) hzb ?_
      intro A9 c9 w9 hown9 hb9 hty9
      have HJ9 := Lib.hid (HJb.out.keepB hb9)
      have HO9 := Lib.hid (HOb.out.same (hty9 g _ HOb.out.ty (by decide)))
      have HC9 := Lib.hid hown9
      clear hown9 hb9 hty9 hba HJb HOb hzb HJ6 HO6 HC6
      have m9 := HO9.out.at_.all.2.1
      have f9 := (HO9.out.there 1 (by decide)).2
      rw [Nat.zero_add] at f9
      obtain ⟨wa, hwa⟩ : ∃ W, W = w9.setCell ⟨g, 1, none⟩ (.slice A9 (a.cs.length + 1) c9) := ⟨_, rfl⟩
      have hlen : (a.cs ++ [sepOf a s]).length = a.cs.length + 1 := List.length_append
      have HO := Lib.hid (show Ou w wa g ⟨a.kind, b.right, a.cs ++ [sepOf a s]⟩ A9 c9 by rw [hwa, ← hlen]; exact HO9.out.setCs _ A9 c9)
      have HJ := Lib.hid (show Jn w wa a A ca (sepOf a s) S d b B cb by rw [hwa]; exact HJ9.out.keepB ((Below.refl _ _).setCell (by exact HO9.out.lo) _))
      have HC := Lib.hid (show OwnCl wa w.heap.size (w.heap.size + 4) A9 (a.cs ++ [sepOf a s]).length c9 (a.cs ++ [sepOf a s]) by
        rw [hlen, hwa]
        exact HC9.out.ty HO9.out.ty (by decide) (by decide) (by have := HO9.out.lo; omega) (fun i hi _ => heap_setG_ne _ _ _ hi))
      have HWA := Lib.hid hwa
      clear hwa hlen
      go_upto_region 9 with fail
      rw [← HWA.out]
      clear HWA HO9 HJ9 HC9 m9 f9
      obtain ⟨cs1, hcs1⟩ : ∃ x, a.cs ++ [sepOf a s] = x := ⟨_, rfl⟩
      have hl1 : cs1.length = a.cs.length + 1 := by rw [← hcs1, List.length_append]; rfl
      rw [hcs1] at HO HC
      have HCS := Lib.hid hcs1
      clear hcs1
      try rw [show a.cs.length + 1 = cs1.length from hl1.symm]
      have hl2 : cs1.length ≤ 401 := by omega
      clear hl1
      obtain ⟨y0, y1, y2⟩ := HJ.out.y.all
      have m1 := HO.out.at_.all.2.1
      have hzj := HJ.out.sz
      go_upto_region 9 with fail
      iterate 13 go_step
      refine wp_append_cl2 rfl (.tmp 53) (.tmp 55) rfl w.heap.size (w.heap.size + 4) (by omega) _ _ _ _ rfl HC.out B b.cs.length cb b.cs rfl rfl (Src.keepJ HJ.out.yc0 HJ.out.bel) (by omega) hzj ?_
      intro A9 c9 w9 hown9 hb9 hty9
      have HJ9 := Lib.hid (HJ.out.keepB hb9)
      have HO9 := Lib.hid (HO.out.same (hty9 g _ HO.out.ty (by decide)))
      have HC9 := Lib.hid hown9
      clear hown9 hb9 hty9 m1 y0 y1 y2
      try clear x0 x1 x2
      have m9 := HO9.out.at_.all.2.1
      have f9 := (HO9.out.there 1 (by decide)).2
      rw [Nat.zero_add] at f9
      obtain ⟨wa, hwa⟩ : ∃ W, W = w9.setCell ⟨g, 1, none⟩ (.slice A9 ((cs1).length + b.cs.length) c9) := ⟨_, rfl⟩
      have hlen : ((cs1) ++ b.cs).length = (cs1).length + b.cs.length := List.length_append
      have HOa := Lib.hid (show Ou w wa g ⟨a.kind, b.right, (cs1) ++ b.cs⟩ A9 c9 by rw [hwa, ← hlen]; exact HO9.out.setCs _ A9 c9)
      have HJa := Lib.hid (show Jn w wa a A ca (sepOf a s) S d b B cb by rw [hwa]; exact HJ9.out.keepB ((Below.refl _ _).setCell (by exact HO9.out.lo) _))
      have HCa := Lib.hid (show OwnCl wa w.heap.size (w.heap.size + 4) A9 ((cs1) ++ b.cs).length c9 ((cs1) ++ b.cs) by
        rw [hlen, hwa]
        exact HC9.out.ty HO9.out.ty (by decide) (by decide) (by have := HO9.out.lo; omega) (fun i hi _ => heap_setG_ne _ _ _ hi))
      have HEQ := Lib.hid (show joinM a s b = ⟨a.kind, b.right, cs1 ++ b.cs⟩ by unfold joinM midJ; rw [if_neg HK1.out, HCS.out])
      have HOK := Lib.hid (show joinOk a s b from ⟨HMAY.out, fun _ => HG.out⟩)
      have HWA := Lib.hid hwa
      clear hwa hlen
      go_upto_region 10 with fail
      rw [← HWA.out]
      clear HWA HO9 HJ9 HC9 m9 f9
      obtain ⟨mf, hmf⟩ : ∃ x : Nd, (⟨a.kind, b.right, (cs1) ++ b.cs⟩ : Nd) = x := ⟨_, rfl⟩
      have hcf : (cs1) ++ b.cs = mf.cs := by rw [← hmf]
      rw [hcf] at HCa
      rw [hmf] at HOa HEQ
      clear hmf hcf
      go_step
      refine wp_load_nd rfl _ rfl g mf A9 c9 rfl HOa.out.at_ ?_
      refine wp_store_nd rfl _ _ rfl (w.heap.size + 3) mf A9 c9 rfl rfl HJa.out.o ?_
      repeat go_step
      refine ret_nd rfl rfl (NdAt.stored HJa.out.o mf A9 c9) rfl ?_
      rw [HR.out]
      refine ⟨below_setCellsR HJa.out.bel (by omega) _ _, .inr ⟨HOK.out, A9, c9, by rw [HEQ.out]; rfl, ?_⟩⟩
      rw [HEQ.out]
      exact (HCa.out.mono (show w.heap.size ≤ w.heap.size + 4 by omega)).ty HJa.out.oty (by decide) (by decide) (by omega) (fun i hi _ => heap_setCells_ne _ _ _ _ hi)
end
section
open Go.RowKit
set_option maxRecDepth 100000
set_option linter.unusedVariables false
set_option linter.unusedSimpArgs false
set_option linter.unnecessarySimpa false
set_option maxHeartbeats 16000000 in
theorem nFits_any (w : World) (n : Nd) (A : Option Addr) (c : Nat) (s : Int) (hs : i64b s) (hn : n.cs.length ≤ 5000) (hok : NdOk n) (hl : ∀ d ∈ n.cs, d.loc.length ≤ 16384) (hA : RdCl w A n.cs) (R : Ending → World → Prop) (hR : R = fun e w' => e = .returned (.bool (decide (okN n s ∧ fitN n s))) ∧ Below w.heap.size w w') :
    Calls Try.prog 43 #[n.val A c, .int .i64 s] w R := by
  have HR := Lib.hid hR; clear hR
  have HOK := Lib.hid hok
  have HL63 := Lib.hid (show ∀ d ∈ n.cs, (d.loc.length : Int) ≤ 9223372036854775807 from fun d hd => by have := hl d hd; omega)
  have HCK := Lib.hid (show ∀ d ∈ n.cs, ClOk d ∧ d.loc.length ≤ 16384 from fun d hd => ⟨hok.2.2 d hd, hl d hd⟩)
  obtain ⟨W0, hW0⟩ : ∃ W, W = w.alloc (.cells #[.int .i64 n.kind, .slice A n.cs.length c, .int .i64 n.right] 69) := ⟨_, rfl⟩
  have HBX := Lib.hid (Bx.of hW0 hA)
  have HW := Lib.hid hW0
  clear hW0 hok hl hA
  have hB0 := HBX.out.bel
  have hs0 := HBX.out.sz
  unfold Nd.val
  go_enter Try.func43, Try.ntmps43
  go_upto_region 1 with fail
  rw [← HW.out]
  clear HW
  go_wp2_with fail
  refine (isSize_any _ s hs).mono ?_
  rintro e w1 ⟨rfl, rfl⟩
  by_cases hsz : isSz s
  case neg =>
    have HF := Lib.hid (show decide (okN n s ∧ fitN n s) = false from decide_eq_false (fun h => hsz h.1.1))
    rw [decide_eq_false hsz]
    clear hsz
    go_wp2_with fail
    rw [HR.out, HF.out]
    exact ⟨rfl, hB0⟩
  have HSZ := Lib.hid hsz
  rw [decide_eq_true hsz]
  clear hsz
  simp only []
  iterate 4 go_step
  refine wp_load_ndg rfl _ rfl w.heap.size n A c rfl HBX.out.at_ ?_
  go_wp2_with fail
  refine (right_any _ n A c (by omega) HOK.out HL63.out HBX.out.cs _ rfl).mono ?_
  rintro e w2 ⟨rfl, hb2⟩
  have hb02 : Below w.heap.size w w2 := hB0.trans (hb2.mono hs0)
  by_cases hm : mayN n
  case neg =>
    have HF := Lib.hid (show decide (okN n s ∧ fitN n s) = false from decide_eq_false (fun h => hm h.1.2))
    rw [decide_eq_false hm]
    clear hm
    go_wp2_with fail
    rw [HR.out, HF.out]
    exact ⟨rfl, hb02⟩
  have HM := Lib.hid hm
  rw [decide_eq_true hm]
  clear hm
  simp only []
  iterate 7 go_step
  refine wp_load_ndg rfl _ rfl w.heap.size n A c rfl (HBX.out.at_.keep hb2) ?_
  go_wp2_with fail
  refine (fits_any _ n A c s HSZ.out hn HCK.out (HBX.out.cs.keep hb2)).mono ?_
  rintro e w3 ⟨rfl, hb3⟩
  have hb03 : Below w.heap.size w w3 := hb02.trans (hb3.mono hb02.size)
  have HE : Hid (decide ((takesN n.kind n.cs : Int) ≤ s - 10) = decide (okN n s ∧ fitN n s)) := Lib.hid (by
    refine decide_eq_decide.2 ⟨fun h => ⟨⟨HSZ.out, HM.out⟩, h⟩, fun h => h.2⟩)
  rw [HE.out]
  obtain ⟨v, hv⟩ : ∃ v, decide (okN n s ∧ fitN n s) = v := ⟨_, rfl⟩
  rw [hv]
  have HV := Lib.hid hv
  clear hv
  go_wp2_with fail
  rw [HR.out, HV.out]
  exact ⟨rfl, hb03⟩

def e0 : Nd := ⟨1, 0, []⟩
def xN : Nd := ⟨2, 2, [⟨5, 1, 0, 0, []⟩]⟩
def yN : Nd := ⟨2, 4, [⟨12, 3, 0, 0, []⟩]⟩
def sN : Cl := ⟨9, 0, 0, 0, []⟩
def wantN : Nd := ⟨2, 4, [⟨5, 1, 0, 0, []⟩, ⟨9, 2, 0, 0, []⟩, ⟨12, 3, 0, 0, []⟩]⟩
theorem e0_ok : okN e0 256 := by decide
theorem e0_fit : fitN e0 256 := by decide
theorem x_ok : okN xN 256 := by decide
theorem x_fit : fitN xN 256 := by
  have h1 := varL_len (n := 1) (by omega)
  have h5 := varL_len (n := 5) (by omega)
  have e : (encC 2 ⟨5, 1, 0, 0, []⟩).length ≤ 20 := by
    unfold encC
    rw [if_pos (by decide)]
    unfold cellB childB keyB loadB
    rw [if_pos (by decide), if_pos (by decide), if_pos rfl]
    simp only [List.length_append, List.length_nil]
    omega
  have e2 : takesN xN.kind xN.cs = (encC 2 ⟨5, 1, 0, 0, []⟩).length + 4 := by simp [takesN, tkC, xN]
  unfold fitN
  rw [e2]
  omega
theorem xy_ok : joinOk xN sN yN := by decide
theorem xy_eq : joinM xN sN yN = wantN := by decide
theorem e0_page {L : List Int} (h : IsP L (nodeM e0 256)) : L.length = 256 ∧ L.take 8 = [1, 0, 0, 0, 0, 0, 0, 0] := by
  have hl : L.length = 256 := h.len
  refine ⟨hl, ?_⟩
  have hF : (nodeM e0 256).F = [1, 0, 0, 0, 0, 0, 0, 0] := by decide
  have hh : (nodeM e0 256).h = 8 := by decide
  apply List.ext_getElem
  · rw [List.length_take, hl]; rfl
  · intro i h1 h2
    have hi : i < 8 := by simpa using h2
    have := h.front i (by rw [hh]; exact hi)
    rw [hF] at this
    rw [List.getElem_take]
    have e1 : bt L i = L[i] := by simp [bt, show i < L.length by omega]
    have e2 : bt [1, 0, 0, 0, 0, 0, 0, 0] i = [(1 : Int), 0, 0, 0, 0, 0, 0, 0][i] := by simp [bt, hi]
    rw [← e1, this, e2]
theorem zeros_no : ¬ decOk (List.replicate 256 0) := by
  intro h
  have := h.2.1.2.1.1
  have e : (nodeOf (List.replicate 256 0)).kind = 0 := by show bt (List.replicate 256 0) 0 = 0; decide
  rw [e] at this
  unfold isK at this
  omega
end
section
open Go.RowKit
set_option maxRecDepth 100000
set_option linter.unusedVariables false
set_option linter.unusedSimpArgs false
set_option linter.unnecessarySimpa false
theorem lay_node {w W : World} (n : Nd) (vs : Array Value) (hv : ∀ W, CellVals W 0 n.cs vs.toList) (c : Nat) {T1 T2 : TypeId}
    (hW : W = ((w.alloc (.cells vs T1)).alloc (.cells #[.int .i64 0, .slice none 0 0, .int .i64 0] T2)).setCells (w.heap.size + 1) 0 (ndC n (some ⟨w.heap.size, 0, none⟩) c)) :
    NdAt W (w.heap.size + 1) n (some ⟨w.heap.size, 0, none⟩) c ∧ RdCl W (some ⟨w.heap.size, 0, none⟩) n.cs ∧ Below w.heap.size w W ∧ w.heap.size + 1 < W.heap.size := by
  obtain ⟨W1, h1⟩ : ∃ W, W = w.alloc (.cells vs T1) := ⟨_, rfl⟩
  rw [← h1] at hW
  have e1 : W1.heap.size = w.heap.size + 1 := by rw [h1]; simp
  have b1 : Below w.heap.size w W1 := by rw [h1]; exact (Below.refl _ _).alloc (Nat.le_refl _) _
  have s1 : Src W1 0 (some ⟨w.heap.size, 0, none⟩) n.cs := .inr ⟨_, 0, vs.toList, rfl, fun j u hu => by
    rw [h1, Nat.zero_add, heap_cell (heap_alloc_new w _)]
    simpa using hu, hv W1⟩
  have ht : (W1.alloc (.cells #[.int .i64 0, .slice none 0 0, .int .i64 0] T2)).there (w.heap.size + 1) 0 3 := by rw [← e1]; exact there_new3 W1 _ _ _ _
  have b2 : Below W1.heap.size W1 W := by rw [hW]; exact below_setCellsR ((Below.refl _ _).alloc (Nat.le_refl _) _) (by omega) _ _
  refine ⟨by rw [hW]; exact NdAt.stored ht _ _ _, (s1.keep b2).rd, b1.trans (b2.mono (by omega)), ?_⟩
  rw [hW, size_setCells]
  simp [e1]
theorem cv1 (W : World) (k ch t sp : Int) : CellVals W 0 [⟨k, ch, t, sp, []⟩] [.int .i64 k, .int .i64 ch, .int .i64 t, .slice none 0 0, .int .i64 sp] :=
  CellVals.one (c := ⟨k, ch, t, sp, []⟩) (LA := none) (d := 0) (Nat.le_refl _) (by unfold maxLen; omega) (.inl ⟨.inl rfl, fun a h => by cases h⟩)
theorem small_ok {n : Nd} (h1 : -100 ≤ n.kind ∧ n.kind ≤ 100) (h2 : -100 ≤ n.right ∧ n.right ≤ 100) (h : ∀ c ∈ n.cs, (-100 ≤ c.key ∧ c.key ≤ 100) ∧ (-100 ≤ c.child ∧ c.child ≤ 100) ∧ c.total = 0 ∧ c.spill = 0 ∧ c.loc = []) : NdOk n := by
  refine ⟨by unfold i64b; omega, by unfold i64b; omega, fun c hc => ?_⟩
  obtain ⟨k1, k2, k3, k4, k5⟩ := h c hc
  exact ⟨⟨by omega, by omega, by omega, by omega⟩, by rw [k5]; simp [IsB]⟩
theorem x_nd : NdOk xN := small_ok (by decide) (by decide) (by decide)
theorem y_nd : NdOk yN := small_ok (by decide) (by decide) (by decide)
theorem s_ok : ClOk sN := ⟨⟨by decide, by decide, by decide, by decide⟩, by simp [sN, IsB]⟩
theorem e0_nd : NdOk e0 := small_ok (by decide) (by decide) (by decide)
theorem replB : IsB (List.replicate 256 0) := by intro x hx; rw [List.eq_of_mem_replicate hx]; omega

set_option maxHeartbeats 32000000 in
theorem live19_any (w : World) (R : Ending → World → Prop) (hR : R = fun e w' => e = .returned (.bool true) ∧ Below w.heap.size w w') :
    Calls Try.prog 40 #[] w R := by
  have HR := Lib.hid hR; clear hR
  go_enter Try.func40, Try.ntmps40
  go_wp2_with fail
  refine (nEncode_any _ e0 none 0 256 (by unfold i64b; omega) (by decide) e0_nd (by decide) (.inl rfl) _ rfl).mono ?_
  rintro e w1 ⟨hb1, ⟨hno, _⟩ | ⟨_, hno, _⟩ | ⟨_, _, A1, m1, c1, L1, rfl, hip, hown⟩⟩
  · exact absurd e0_ok hno
  · exact absurd e0_fit hno
  obtain ⟨hL, hT⟩ := e0_page hip
  have hm1 : L1.length = m1 := hown.len
  rw [hL] at hm1
  subst hm1
  have HO1 := Lib.hid hown
  have HL := Lib.hid hL
  have HT := Lib.hid hT
  have hc1 := hown.cap
  clear hip hown hL hT
  obtain ⟨w2, hw2⟩ : ∃ W, W = ((w1.alloc (.cells #[.int .i64 5, .int .i64 1, .int .i64 0, .slice none 0 0, .int .i64 0] 55)).alloc (.cells #[.int .i64 0, .slice none 0 0, .int .i64 0] 69)).setCells (w1.heap.size + 1) 0 (ndC xN (some ⟨w1.heap.size, 0, none⟩) 1) := ⟨_, rfl⟩
  have htw2 : ((w1.alloc (.cells #[.int .i64 5, .int .i64 1, .int .i64 0, .slice none 0 0, .int .i64 0] 55)).alloc (.cells #[.int .i64 0, .slice none 0 0, .int .i64 0] 69)).there (w1.heap.size + 1) 0 3 := by
    have := there_new3 (w1.alloc (.cells #[.int .i64 5, .int .i64 1, .int .i64 0, .slice none 0 0, .int .i64 0] 55)) (.int .i64 0) (.slice none 0 0) (.int .i64 0) 69
    simpa using this
  obtain ⟨hnw2, hrw2, hbw2, hlw2⟩ := lay_node xN #[.int .i64 5, .int .i64 1, .int .i64 0, .slice none 0 0, .int .i64 0] (fun W => cv1 W 5 1 0 0) 1 hw2
  have HNw2 := Lib.hid hnw2
  have HRw2 := Lib.hid hrw2
  have HHw2 := Lib.hid hw2
  have HTw2 := Lib.hid htw2
  clear hnw2 hrw2 hw2 htw2
  go_upto_region 2 with fail
  iterate 13 go_step
  refine wp_store_nd rfl _ _ rfl (w1.heap.size + 1) xN (some ⟨w1.heap.size, 0, none⟩) 1 rfl rfl HTw2.out ?_
  rw [← HHw2.out]
  clear HHw2 HTw2
  obtain ⟨w3, hw3⟩ : ∃ W, W = ((w2.alloc (.cells #[.int .i64 12, .int .i64 3, .int .i64 0, .slice none 0 0, .int .i64 0] 55)).alloc (.cells #[.int .i64 0, .slice none 0 0, .int .i64 0] 69)).setCells (w2.heap.size + 1) 0 (ndC yN (some ⟨w2.heap.size, 0, none⟩) 1) := ⟨_, rfl⟩
  have htw3 : ((w2.alloc (.cells #[.int .i64 12, .int .i64 3, .int .i64 0, .slice none 0 0, .int .i64 0] 55)).alloc (.cells #[.int .i64 0, .slice none 0 0, .int .i64 0] 69)).there (w2.heap.size + 1) 0 3 := by
    have := there_new3 (w2.alloc (.cells #[.int .i64 12, .int .i64 3, .int .i64 0, .slice none 0 0, .int .i64 0] 55)) (.int .i64 0) (.slice none 0 0) (.int .i64 0) 69
    simpa using this
  obtain ⟨hnw3, hrw3, hbw3, hlw3⟩ := lay_node yN #[.int .i64 12, .int .i64 3, .int .i64 0, .slice none 0 0, .int .i64 0] (fun W => cv1 W 12 3 0 0) 1 hw3
  have HNw3 := Lib.hid hnw3
  have HRw3 := Lib.hid hrw3
  have HHw3 := Lib.hid hw3
  have HTw3 := Lib.hid htw3
  clear hnw3 hrw3 hw3 htw3
  go_upto_region 3 with fail
  iterate 13 go_step
  refine wp_store_nd rfl _ _ rfl (w2.heap.size + 1) yN (some ⟨w2.heap.size, 0, none⟩) 1 rfl rfl HTw3.out ?_
  rw [← HHw3.out]
  clear HHw3 HTw3
  have HX3 := Lib.hid (HNw2.out.keep hbw3)
  have HXC3 := Lib.hid (HRw2.out.keep hbw3)
  have HO3 := Lib.hid ((HO1.out.keep hbw2).keep hbw3)
  have hb3 : Below w.heap.size w w3 := hb1.trans ((hbw2.trans (hbw3.mono hbw2.size)).mono hb1.size)
  clear hbw2 hbw3 HNw2 HRw2 HO1
  obtain ⟨g1, hg1⟩ : ∃ x, w1.heap.size = x := ⟨_, rfl⟩
  obtain ⟨g2, hg2⟩ : ∃ x, w2.heap.size = x := ⟨_, rfl⟩
  rw [hg1] at HX3 HXC3
  rw [hg2] at HNw3 HRw3
  simp only [hg1, hg2]
  have hzz : g1 + 1 < w3.heap.size := by rw [← hg1, ← hg2] at *; omega
  clear hlw2 hlw3 hg1 hg2 hb1
  go_upto_region 4 with fail
  go_step
  refine wp_load_nd rfl _ rfl (g1 + 1) xN (some ⟨g1, 0, none⟩) 1 rfl HX3.out ?_
  iterate 3 go_step
  refine wp_load_nd rfl _ rfl (g2 + 1) yN (some ⟨g2, 0, none⟩) 1 rfl HNw3.out ?_
  go_wp2_with fail
  refine (njoin_any _ xN (some ⟨g1, 0, none⟩) 1 sN none 0 yN (some ⟨g2, 0, none⟩) 1 (by decide) (by decide) (by decide) x_nd y_nd s_ok (by decide) (by unfold maxLen; omega) HXC3.out (.inl rfl) HRw3.out _ rfl).mono ?_
  rintro e w4 ⟨hb4, ⟨hno, _⟩ | ⟨_, A4, c4, rfl, hown4⟩⟩
  · exact absurd xy_ok hno
  rw [xy_eq] at hown4 ⊢
  have HX4 := Lib.hid (HX3.out.keep hb4)
  have HO4 := Lib.hid (HO3.out.keep hb4)
  have HXC4 := Lib.hid (HXC3.out.keep hb4)
  have hb04 : Below w.heap.size w w4 := hb3.trans (hb4.mono hb3.size)
  have HC4 := Lib.hid hown4.rd
  clear hown4 hb4 HX3 HXC3 HO3 hb3 HNw3 HRw3
  simp only []
  iterate 13 go_step
  obtain ⟨W5, hW5⟩ : ∃ W, W = w4.alloc (.cells #[.int .i64 0, .slice none 0 0, .int .i64 0] 69) := ⟨_, rfl⟩
  have HT5 := Lib.hid (show W5.there w4.heap.size 0 3 by rw [hW5]; exact there_new3 w4 _ _ _ _)
  have hb45 : Below w4.heap.size w4 W5 := by rw [hW5]; exact (Below.refl _ _).alloc (Nat.le_refl _) _
  rw [← hW5]
  clear hW5
  refine wp_store_nd rfl _ _ rfl w4.heap.size wantN A4 c4 rfl rfl HT5.out ?_
  obtain ⟨w5, hw5⟩ : ∃ W, W = W5.setCells w4.heap.size 0 (ndC wantN A4 c4) := ⟨_, rfl⟩
  have HJ5 := Lib.hid (show NdAt w5 w4.heap.size wantN A4 c4 by rw [hw5]; exact NdAt.stored HT5.out _ _ _)
  have hb5 : Below w4.heap.size w4 w5 := by rw [hw5]; exact below_setCellsR hb45 (Nat.le_refl _) _ _
  have HX5 := Lib.hid (HX4.out.keep hb5)
  have HO5 := Lib.hid (HO4.out.keep hb5)
  have HXC5 := Lib.hid (HXC4.out.keep hb5)
  have HC5 := Lib.hid (HC4.out.keep hb5)
  have hb05 : Below w.heap.size w w5 := hb04.trans (hb5.mono hb04.size)
  rw [← hw5]
  obtain ⟨g3, hg3⟩ : ∃ x, w4.heap.size = x := ⟨_, rfl⟩
  rw [hg3] at HJ5 ⊢
  clear hw5 hb45 hb5 HT5 HX4 HO4 HXC4 HC4 hb04 hg3
  obtain ⟨W6, hW6⟩ : ∃ W, W = w5.alloc (.cells (zrs 256) 5) := ⟨_, rfl⟩
  have HZ6 := Lib.hid (show OwnB W6 w5.heap.size (some ⟨w5.heap.size, 0, none⟩) 256 256 (List.replicate 256 0) by rw [hW6]; exact OwnB.zeros w5 _ 256 (Nat.le_refl _) (by unfold maxLen; omega))
  have hb6 : Below w5.heap.size w5 W6 := by rw [hW6]; exact (Below.refl _ _).alloc (Nat.le_refl _) _
  have HW6 := Lib.hid hW6
  have hmk := run_mk 256 256 (Nat.le_refl _) (by omega)
  rw [show ((256 : Nat) : Int) = 256 from rfl] at hmk
  clear hW6
  go_wp2_with fail
  rw [← HW6.out]
  clear HW6 hmk
  refine (nDecode_any _ (some ⟨w5.heap.size, 0, none⟩) 256 256 (List.replicate 256 0) List.length_replicate (Nat.le_refl _) (by unfold maxLen; omega) HZ6.out.rd replB _ rfl).mono ?_
  rintro e w7 ⟨hb7, ⟨hno, _⟩ | ⟨_, _, rfl⟩ | ⟨_, hno, _⟩⟩
  · exact absurd (by decide) hno
  rotate_left
  · exact absurd hno zeros_no
  have hb57 : Below w5.heap.size w5 w7 := hb6.trans (hb7.mono hb6.size)
  have HX7 := Lib.hid (HX5.out.keep hb57)
  have HO7 := Lib.hid (HO5.out.keep hb57)
  have HXC7 := Lib.hid (HXC5.out.keep hb57)
  have HC7 := Lib.hid (HC5.out.keep hb57)
  have HJ7 := Lib.hid (HJ5.out.keep hb57)
  have hb07 : Below w.heap.size w w7 := hb05.trans (hb57.mono hb05.size)
  clear hb57 hb7 hb6 HZ6 HX5 HO5 HXC5 HC5 HJ5 hb05
  simp only []
  iterate 13 go_step
  obtain ⟨W8, hW8⟩ : ∃ W, W = w7.alloc (.cells #[.int .i64 0, .slice none 0 0, .int .i64 0] 69) := ⟨_, rfl⟩
  have HT8 := Lib.hid (show W8.there w7.heap.size 0 3 by rw [hW8]; exact there_new3 w7 _ _ _ _)
  have hb78 : Below w7.heap.size w7 W8 := by rw [hW8]; exact (Below.refl _ _).alloc (Nat.le_refl _) _
  rw [← hW8]
  clear hW8
  refine wp_store_nd rfl _ _ rfl w7.heap.size zeroN none 0 rfl rfl HT8.out ?_
  obtain ⟨w8, hw8⟩ : ∃ W, W = W8.setCells w7.heap.size 0 (ndC zeroN none 0) := ⟨_, rfl⟩
  have hb8 : Below w7.heap.size w7 w8 := by rw [hw8]; exact below_setCellsR hb78 (Nat.le_refl _) _ _
  have HX8 := Lib.hid (HX7.out.keep hb8)
  have HO8 := Lib.hid (HO7.out.keep hb8)
  have HXC8 := Lib.hid (HXC7.out.keep hb8)
  have HC8 := Lib.hid (HC7.out.keep hb8)
  have HJ8 := Lib.hid (HJ7.out.keep hb8)
  have hb08 : Below w.heap.size w w8 := hb07.trans (hb8.mono hb07.size)
  rw [← hw8]
  clear hw8 hb8 hb78 HT8 HX7 HO7 HXC7 HC7 HJ7 hb07
  obtain ⟨w9, hw9⟩ : ∃ W, W = ((w8.alloc (.cells #[.int .i64 5, .int .i64 1, .int .i64 0, .slice none 0 0, .int .i64 0, .int .i64 9, .int .i64 2, .int .i64 0, .slice none 0 0, .int .i64 0, .int .i64 12, .int .i64 3, .int .i64 0, .slice none 0 0, .int .i64 0] 55)).alloc (.cells #[.int .i64 0, .slice none 0 0, .int .i64 0] 69)).setCells (w8.heap.size + 1) 0 (ndC wantN (some ⟨w8.heap.size, 0, none⟩) 3) := ⟨_, rfl⟩
  have htw9 : ((w8.alloc (.cells #[.int .i64 5, .int .i64 1, .int .i64 0, .slice none 0 0, .int .i64 0, .int .i64 9, .int .i64 2, .int .i64 0, .slice none 0 0, .int .i64 0, .int .i64 12, .int .i64 3, .int .i64 0, .slice none 0 0, .int .i64 0] 55)).alloc (.cells #[.int .i64 0, .slice none 0 0, .int .i64 0] 69)).there (w8.heap.size + 1) 0 3 := by
    have := there_new3 (w8.alloc (.cells #[.int .i64 5, .int .i64 1, .int .i64 0, .slice none 0 0, .int .i64 0, .int .i64 9, .int .i64 2, .int .i64 0, .slice none 0 0, .int .i64 0, .int .i64 12, .int .i64 3, .int .i64 0, .slice none 0 0, .int .i64 0] 55)) (.int .i64 0) (.slice none 0 0) (.int .i64 0) 69
    simpa using this
  obtain ⟨hnw9, hrw9, hbw9, hlw9⟩ := lay_node wantN #[.int .i64 5, .int .i64 1, .int .i64 0, .slice none 0 0, .int .i64 0, .int .i64 9, .int .i64 2, .int .i64 0, .slice none 0 0, .int .i64 0, .int .i64 12, .int .i64 3, .int .i64 0, .slice none 0 0, .int .i64 0] (fun W => ((cv1 W 5 1 0 0).app (cv1 W 9 2 0 0)).app (cv1 W 12 3 0 0)) 3 hw9
  have HNw9 := Lib.hid hnw9
  have HRw9 := Lib.hid hrw9
  have HHw9 := Lib.hid hw9
  have HTw9 := Lib.hid htw9
  clear hnw9 hrw9 hw9 htw9
  go_upto_region 6 with fail
  iterate 19 go_step
  refine wp_store_nd rfl _ _ rfl (w8.heap.size + 1) wantN (some ⟨w8.heap.size, 0, none⟩) 3 rfl rfl HTw9.out ?_
  rw [← HHw9.out]
  clear HHw9 HTw9
  have HX9 := Lib.hid (HX8.out.keep hbw9)
  have HO9 := Lib.hid (HO8.out.keep hbw9)
  have HXC9 := Lib.hid (HXC8.out.keep hbw9)
  have HC9 := Lib.hid (HC8.out.keep hbw9)
  have HJ9 := Lib.hid (HJ8.out.keep hbw9)
  have hb09 : Below w.heap.size w w9 := hb08.trans (hbw9.mono hb08.size)
  obtain ⟨g4, hg4⟩ : ∃ x, w8.heap.size = x := ⟨_, rfl⟩
  rw [hg4] at HNw9 HRw9
  simp only [hg4]
  clear hg4 hbw9 hlw9 HX8 HO8 HXC8 HC8 HJ8 hb08 hzz
  have hcut := run_cut_toG 29 5 Try.underlying29 (by intro w; kernel_rfl) A1 256 c1 8 (by omega)
  rw [show ((8 : Nat) : Int) = 8 from rfl] at hcut
  have HCD := Lib.hid (show Rd w9 (cutA A1 c1 0) (L1.take 8) by
    have := cutA_rd HO9.out.rd c1 0 8 (by rw [HL.out]; exact hc1.1)
    rwa [List.drop_zero] at this)
  obtain ⟨D1, hD1⟩ : ∃ D, cutA A1 c1 0 = D := ⟨_, rfl⟩
  rw [hD1] at hcut HCD
  clear hD1
  go_wp2_with fail
  clear hcut
  have hba : Below w9.heap.size w9 (w9.alloc (.cells #[.int .u8 1, .int .u8 0, .int .u8 0, .int .u8 0, .int .u8 0, .int .u8 0, .int .u8 0, .int .u8 0] 5)) := (Below.refl _ _).alloc (Nat.le_refl _) _
  refine (same1_any _ D1 (some ⟨w9.heap.size, 0, none⟩) 8 c1 8 8 (L1.take 8) [1, 0, 0, 0, 0, 0, 0, 0] (by rw [HT.out]; rfl) rfl (by omega) (HCD.out.keep hba) (OwnB.lit w9 _ [1, 0, 0, 0, 0, 0, 0, 0] w9.heap.size 8 rfl rfl (Nat.le_refl _) (by decide)).rd).mono ?_
  rintro e wa ⟨rfl, hb10⟩
  have hba' : Below w9.heap.size w9 wa := hba.trans (hb10.mono hba.size)
  rw [show beqL (L1.take 8) [1, 0, 0, 0, 0, 0, 0, 0] = true from by rw [HT.out]; exact beqL_self _]
  simp only []
  iterate 17 go_step
  have HX10 := Lib.hid (HX9.out.keep hba')
  have HXC10 := Lib.hid (HXC9.out.keep hba')
  have HC10 := Lib.hid (HC9.out.keep hba')
  have HW10 := Lib.hid (HRw9.out.keep hba')
  have hb010 : Below w.heap.size w wa := hb09.trans (hba'.mono hb09.size)
  refine wp_load_ndg rfl _ rfl g3 wantN A4 c4 rfl (HJ9.out.keep hba') ?_
  refine wp_load_ndg rfl _ rfl (g4 + 1) wantN (some ⟨g4, 0, none⟩) 3 rfl (HNw9.out.keep hba') ?_
  clear HJ9 HX9 HXC9 HC9 HNw9 HRw9 HCD HO9 hba hba' hb10 hb09
  go_wp2_with fail
  refine (same19_any _ wantN wantN A4 (some ⟨g4, 0, none⟩) c4 3 (by decide) (by decide) HC10.out HW10.out _ rfl).mono ?_
  rintro e wb ⟨rfl, hb11⟩
  rw [decide_eq_true (show wantN = wantN from rfl)]
  have hb011 : Below w.heap.size w wb := hb010.trans (hb11.mono hb010.size)
  simp only []
  iterate 17 go_step
  refine wp_load_ndg rfl _ rfl (g1 + 1) xN (some ⟨g1, 0, none⟩) 1 rfl (HX10.out.keep hb11) ?_
  go_wp2_with fail
  refine (nFits_any _ xN (some ⟨g1, 0, none⟩) 1 256 (by unfold i64b; omega) (by decide) x_nd (by decide) (HXC10.out.keep hb11) _ rfl).mono ?_
  rintro e wc ⟨rfl, hb12⟩
  rw [decide_eq_true (show okN xN 256 ∧ fitN xN 256 from ⟨x_ok, x_fit⟩)]
  have hb012 : Below w.heap.size w wc := hb011.trans (hb12.mono hb011.size)
  clear hb12 hb11 HX10 HXC10
  go_wp2_with fail
  rw [HR.out]
  exact ⟨rfl, hb012⟩
end
section
open Go.RowKit
set_option maxRecDepth 100000
set_option linter.unusedVariables false
set_option linter.unusedSimpArgs false
set_option linter.unnecessarySimpa false
theorem step_store_cl {ops : Array Oper} {op : Oper} {a : Act} {w : World} {K : Act → World → Prop} {Q : Exit → Act → World → Prop} {Z : Prop} (hgd : op.guard = none) (x y : Operand) (ho : op.op = .store 55 x y) (g : Nat) (c : Cl) (A : Option Addr) (n d : Nat)
    (hx : a.eval x = .pointer (some ⟨g, 0, none⟩)) (hy : a.eval y = c.val A n d) (ht : w.there g 0 5) (h : K (a.put op.dst undef) (w.setCells g 0 (clC c A n d))) :
    if Region.wanted op (yielded ops a.tmps) = true then Oper.wp Try.prog op a w K Q else Z := by
  have hw : Region.wanted op (yielded ops a.tmps) = true := by simp [Region.wanted, hgd]
  rw [if_pos hw]
  exact wp_store_mid 55 x y ho g 0 (clC c A n d).toArray hx hy ht size_cl (all_oneCell_toArray (by intro v hv; simp [clC] at hv; rcases hv with rfl | rfl | rfl | rfl | rfl <;> rfl)) h
end
end Go.Proofs.Ytoeaffmlolapnaa
