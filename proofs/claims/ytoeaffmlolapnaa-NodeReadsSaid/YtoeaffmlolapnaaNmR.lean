/- Several texts of this proof as one: NdO, NdP, NdQ, NdR, NdT, NdU, NdV, NdW. Laid by merge.py. -/
import Derived.Test.YtoeaffmlolapnaaNmA
import Derived.Test.YtoeaffmlolapnaaNmB
import Derived.Test.YtoeaffmlolapnaaNmC
import Derived.Test.YtoeaffmlolapnaaNmD
import Derived.Test.YtoeaffmlolapnaaNmE
import Derived.Test.YtoeaffmlolapnaaNmF
import Derived.Test.YtoeaffmlolapnaaNmG
import Derived.Test.YtoeaffmlolapnaaNmH
import Derived.Test.YtoeaffmlolapnaaNmI
import Derived.Test.YtoeaffmlolapnaaNmJ
import Derived.Test.YtoeaffmlolapnaaNmK
import Derived.Test.YtoeaffmlolapnaaNmL
import Derived.Test.YtoeaffmlolapnaaNmM
import Derived.Test.YtoeaffmlolapnaaNmN
import Derived.Test.YtoeaffmlolapnaaNmO
import Derived.Test.YtoeaffmlolapnaaNmP
import Derived.Test.YtoeaffmlolapnaaNmQ
import Derived.ArgAppend
import Derived.BigQuiet
import Derived.ChangeOld
import Derived.Deep.DeepCutAuto
import Derived.Deep.Matrix
import Derived.Deep.MidRow
import Derived.Deep.QuietTactic
import Derived.Deep.RegionHeld3
import Derived.Deep.Slices
import Derived.Handy
import Derived.Laws.CopyOwn
import Derived.Laws.Externs
import Derived.Laws.ResultCell
import Derived.Lib.AppendStr
import Derived.Lib.Hide
import Derived.Lib.MakeNoZero
import Derived.Lib.SlBuf
import Derived.Lib.SliceRun
import Derived.Lib.SmallJoins
import Derived.Maps.AppendAt
import Derived.OpenShut
import Derived.ProofKit
import Derived.ShutString
import Derived.SizedLaws
import Derived.Test.YtoeaffmlolapnaaProg
import Derived.WalkKit
import Derived.WalkSpells
namespace Go.Proofs.Ytoeaffmlolapnaa
section
open Go.RowKit
set_option maxRecDepth 100000
set_option linter.unusedVariables false
set_option linter.unusedSimpArgs false
set_option linter.unnecessarySimpa false
theorem OwnCl.lit0 (w : World) (lo base : Nat) (hb : base ≤ w.heap.size) : OwnCl (w.alloc (.cells #[] 55)) lo base (some ⟨w.heap.size, 0, none⟩) 0 0 [] :=
  ⟨rfl, [], ⟨rfl, .inr ⟨w.heap.size, 0, #[], rfl, hb, heap_alloc_new w _, Nat.le_refl _, by unfold maxLen; omega, rfl, rfl⟩⟩, rfl, fun i hi => by simp at hi⟩
theorem Ou.put {w W : World} {t : Nat} (h0 : w.heap.size + 4 ≤ t) (ht : W.there t 0 3) (hy : TyAt W t 69) (m : Nd) (A : Option Addr) (c : Nat) : Ou w (W.setCells t 0 (ndC m A c)) t m A c := by
  have hl : t < W.heap.size := by obtain ⟨cur, fr, h⟩ := hy; exact (Array.getElem?_eq_some_iff.1 h).1
  exact ⟨NdAt.stored ht m A c, World.there_setCells ht _ _ _, TyAt.sets _ _ _ _ hy, h0, by rw [size_setCells]; exact hl⟩
theorem TyAt.same {w w' : World} {t : Nat} {T : TypeId} (e : w'.heap[t]? = w.heap[t]?) (h : TyAt w t T) : TyAt w' t T := by
  obtain ⟨cur, fr, h⟩ := h
  exact ⟨cur, fr, e.trans h⟩
theorem TyAt.lt {w : World} {t : Nat} {T : TypeId} (h : TyAt w t T) : t < w.heap.size := by
  obtain ⟨cur, fr, h⟩ := h
  exact (Array.getElem?_eq_some_iff.1 h).1
theorem wp_append_cl2 {ops : Array Oper} {rest : List Oper} {o : Oper} {a : Act} {w : World} {Q : Exit → Act → World → Prop} (hgd : o.guard = none) (s x : Operand)
    (ho : o.op = .call { callee := .builtin .append, args := #[s, x], argTypes := #[67, 67] })
    (lo base : Nat) (hlb : lo ≤ base) (A : Option Addr) (m c : Nat) (cs : List Cl) (hs : a.eval s = .slice A m c) (hown : OwnCl w lo base A m c cs) (B : Option Addr) (k d : Nat) (cs' : List Cl) (hx : a.eval x = .slice B k d) (hk : cs'.length = k) (hsrc : Src w lo B cs') (hn : m + k ≤ 1000000000) (hbase : base ≤ w.heap.size)
    (h : ∀ A' c' w', OwnCl w' lo base A' (m + k) c' (cs ++ cs') → Below base w w' → (∀ t T, TyAt w t T → T ≠ 55 → w'.heap[t]? = w.heap[t]?) → wpList Try.prog ops Q rest (a.put o.dst (.slice A' (m + k) c')) w') : wpList Try.prog ops Q (o :: rest) a w := by
  obtain ⟨A', c', w', hrun, h2, h3, h4⟩ := run_append_cl2 w o.type lo base hlb A m c cs hown B k d cs' hk hsrc hn hbase
  refine wpList_plain hgd fun K hK => ?_
  unfold Oper.wp execOp
  simp only [ho, resolve, invoke, builtin, Sem.run_bind, Sem.run_pure, Result.andThen_ok, List.map_toArray, List.map_cons, List.map_nil, hs, hx, hrun]
  exact hK _ _ (h A' c' w' h2 h3 h4)
theorem Src.keepJ {w W : World} {B : Option Addr} {cs : List Cl} (h : RdCl w B cs) (hb : Below w.heap.size w W) : Src W w.heap.size B cs := (h.src (Nat.le_refl _)).keep hb
/-- What stands between, in its box. -/
theorem Jn.srcS {w W : World} {a : Nd} {A : Option Addr} {ca : Nat} {s : Cl} {S : Option Addr} {d : Nat} {b : Nd} {B : Option Addr} {cb : Nat} (h : Jn w W a A ca s S d b B cb) (hd : s.loc.length ≤ d) (hm : d ≤ maxLen) : CellVals W w.heap.size [s] (clC s S s.loc.length d) :=
  CellVals.one hd hm (.inl ⟨h.sr, fun x hx hne => (h.sr0.blk hne x hx)⟩)

set_option maxHeartbeats 64000000 in
theorem rjoin_any (w : World) (a : Nd) (A : Option Addr) (ca : Nat) (s : Cl) (S : Option Addr) (d : Nat) (b : Nd) (B : Option Addr) (cb : Nat)
    (ha : fewN a) (hb : fewN b) (hs : s.loc.length ≤ 16384) (oa : NdOk a) (ob : NdOk b) (os : ClOk s) (hd : s.loc.length ≤ d) (hdm : d ≤ maxLen) (hA : RdCl w A a.cs) (hS : Rd w S s.loc) (hB : RdCl w B b.cs) (R : Ending → World → Prop) (hR : R = JoinN w a s b) :
    Calls Try.prog 48 #[a.val A ca, s.val S s.loc.length d, b.val B cb] w R := by
  have HR := Lib.hid hR; clear hR
  have HAF := Lib.hid ha
  have HBF := Lib.hid hb
  have HAO := Lib.hid oa
  have HBO := Lib.hid ob
  have HSO := Lib.hid os
  obtain ⟨W0, hW0⟩ : ∃ W, W = (((w.alloc (.cells #[.int .i64 a.kind, .slice A a.cs.length ca, .int .i64 a.right] 69)).alloc (.cells #[.int .i64 s.key, .int .i64 s.child, .int .i64 s.total, .slice S s.loc.length d, .int .i64 s.spill] 55)).alloc (.cells #[.int .i64 b.kind, .slice B b.cs.length cb, .int .i64 b.right] 69)).alloc (.cells #[.int .i64 0, .slice none 0 0, .int .i64 0] 69) := ⟨_, rfl⟩
  have HJ0 := Lib.hid (Jn.made hA hS hB hW0)
  have HW := Lib.hid hW0
  clear hW0 ha hb oa ob os hA hS hB
  obtain ⟨x0, x1, x2⟩ := HJ0.out.x.all
  obtain ⟨y0, y1, y2⟩ := HJ0.out.y.all
  unfold Nd.val Cl.val
  go_enter Try.func48, Try.ntmps48
  go_upto_region 1 with fail
  rw [← HW.out]
  clear HW
  have hz0 := HJ0.out.sz
  go_step
  refine wp_load_nd rfl _ rfl w.heap.size a A ca rfl HJ0.out.x ?_
  go_wp2_with fail
  refine (rMay_any _ a A ca (by have := HAF.out.1; omega) HAO.out (fun d hd => by have := HAF.out.2 d hd; omega) HJ0.out.xc _ rfl).mono ?_
  rintro e w1 ⟨rfl, hb1⟩
  have HJ1 := Lib.hid (HJ0.out.keep hb1)
  by_cases hma : mayN a
  case neg =>
    have HF := Lib.hid (show ¬ joinOk a s b from fun h => hma h.1.1)
    rw [decide_eq_false hma]
    clear hma x0 x1 x2 y0 y1 y2
    go_upto_region 2 with fail
    iterate 4 go_step
    refine wp_store_nd rfl _ _ rfl (w.heap.size + 3) zeroN none 0 rfl rfl HJ1.out.o ?_
    repeat go_step
    refine ret_nd rfl rfl (NdAt.stored HJ1.out.o zeroN none 0) rfl ?_
    rw [HR.out]
    exact ⟨below_setCellsR HJ1.out.bel (by omega) _ _, .inl ⟨HF.out, rfl⟩⟩
  rw [decide_eq_true hma]
  simp only []
  iterate 7 go_step
  refine wp_load_ndg rfl _ rfl (w.heap.size + 2) b B cb rfl HJ1.out.y ?_
  go_wp2_with fail
  refine (rMay_any _ b B cb (by have := HBF.out.1; omega) HBO.out (fun d hd => by have := HBF.out.2 d hd; omega) HJ1.out.yc _ rfl).mono ?_
  rintro e w2 ⟨rfl, hb2⟩
  have HJ2 := Lib.hid (HJ1.out.keep hb2)
  have hz2 := HJ2.out.sz
  clear hb1 hb2 HJ1 HJ0 x0 x1 x2 y0 y1 y2
  obtain ⟨x0, x1, x2⟩ := HJ2.out.x.all
  obtain ⟨y0, y1, y2⟩ := HJ2.out.y.all
  by_cases hmb : mayN b
  case neg =>
    have HF := Lib.hid (show ¬ joinOk a s b from fun h => hmb h.1.2.1)
    rw [decide_eq_false hmb]
    clear hmb
    go_upto_region 2 with fail
    iterate 4 go_step
    refine wp_store_nd rfl _ _ rfl (w.heap.size + 3) zeroN none 0 rfl rfl HJ2.out.o ?_
    repeat go_step
    refine ret_nd rfl rfl (NdAt.stored HJ2.out.o zeroN none 0) rfl ?_
    rw [HR.out]
    exact ⟨below_setCellsR HJ2.out.bel (by omega) _ _, .inl ⟨HF.out, rfl⟩⟩
  rw [decide_eq_true hmb]
  by_cases hk : a.kind = b.kind
  case neg =>
    have HF := Lib.hid (show ¬ joinOk a s b from fun h => hk h.1.2.2)
    have q1 : (a.kind != b.kind) = true := by simp [hk]
    clear hk
    go_upto_region 2 with fail
    iterate 4 go_step
    refine wp_store_nd rfl _ _ rfl (w.heap.size + 3) zeroN none 0 rfl rfl HJ2.out.o ?_
    repeat go_step
    refine ret_nd rfl rfl (NdAt.stored HJ2.out.o zeroN none 0) rfl ?_
    rw [HR.out]
    exact ⟨below_setCellsR HJ2.out.bel (by omega) _ _, .inl ⟨HF.out, rfl⟩⟩
  have HMAY := Lib.hid (show mayN a ∧ mayN b ∧ a.kind = b.kind from ⟨hma, hmb, hk⟩)
  have q1 : (a.kind != b.kind) = false := by simp [hk]
  clear hk hma hmb
  clear x0 x1 x2 y0 y1 y2
  obtain ⟨x0, x1, x2⟩ := HJ2.out.x.all
  obtain ⟨y0, y1, y2⟩ := HJ2.out.y.all
  go_upto_region 3 with fail
  clear x0 x1 x2 y0 y1 y2
  go_cut [8] from 25 to 33 (fun v wx => ∃ g A3 c3, v = .pointer (some ⟨g, 0, none⟩) ∧ Jn w wx a A ca s S d b B cb ∧ Ou w wx g ⟨a.kind, b.right, a.cs⟩ A3 c3 ∧ OwnCl wx w.heap.size (w.heap.size + 4) A3 a.cs.length c3 a.cs)
  case first =>
    have F0 : ∀ W : World, Jn w W a A ca s S d b B cb → W.cell? ⟨w.heap.size, 0, none⟩ = some (.int .i64 a.kind) := fun W hW => hW.x.all.1
    have F1 : ∀ W : World, Jn w W a A ca s S d b B cb → W.cell? ⟨w.heap.size, 1, none⟩ = some (.slice A a.cs.length ca) := fun W hW => hW.x.all.2.1
    have F2 : ∀ W : World, Jn w W a A ca s S d b B cb → W.cell? ⟨w.heap.size + 2, 2, none⟩ = some (.int .i64 b.right) := fun W hW => hW.y.all.2.2
    refine wp_region_held_drew (S := (fun W => Jn w W a A ca s S d b B cb)) (by kernel_rfl) ?_ (fun hHeld => ?_)
    · exact HJ2.out.keep (Below.refl _ w2).drew
    refine' wpAnyH_take (i := 0) (oi := _) (v := _) rfl (by kernel_rfl) (by kernel_rfl) (by kernel_rfl) (fun _ _ _ h => h) (Or.inl ⟨by rfl, ?hz1⟩) (by assumption) ?rezt1
    case hz1 => (intro w' hSw; (try dsimp only at hSw); go_simp; try with_reducible rfl)
    try simp only [Act.put, List.setIfInBounds_toArray, List.set_cons_zero, List.set_cons_succ, List.getElem_toArray, List.getElem_cons_zero, List.getElem_cons_succ]
    refine' wpAnyH_take (i := 1) (oi := _) (v := _) rfl (by kernel_rfl) (by kernel_rfl) (by kernel_rfl) (fun _ _ _ h => h) (Or.inl ⟨by rfl, ?hz2⟩) (by assumption) ?rezt2
    case hz2 => (intro w' hSw; (try dsimp only at hSw); go_simp; try with_reducible rfl)
    try simp only [Act.put, List.setIfInBounds_toArray, List.set_cons_zero, List.set_cons_succ, List.getElem_toArray, List.getElem_cons_zero, List.getElem_cons_succ]
    refine' wpAnyH_take (i := 3) (oi := _) (v := _) rfl (by kernel_rfl) (by kernel_rfl) (by kernel_rfl) (fun _ _ _ h => h) (Or.inl ⟨by rfl, ?hz3⟩) (by assumption) ?rezt3
    case hz3 => (intro w' hSw; (try dsimp only at hSw); go_simp; try with_reducible rfl)
    try simp only [Act.put, List.setIfInBounds_toArray, List.set_cons_zero, List.set_cons_succ, List.getElem_toArray, List.getElem_cons_zero, List.getElem_cons_succ]
    refine' wpAnyH_take (i := 4) (oi := _) (v := _) rfl (by kernel_rfl) (by kernel_rfl) (by kernel_rfl) (fun _ _ _ h => h) (Or.inl ⟨by rfl, ?hz4⟩) (by assumption) ?rezt4
    case hz4 => (intro w' hSw; (try dsimp only at hSw); go_simp; try with_reducible rfl)
    try simp only [Act.put, List.setIfInBounds_toArray, List.set_cons_zero, List.set_cons_succ, List.getElem_toArray, List.getElem_cons_zero, List.getElem_cons_succ]
    refine' wpAnyH_take (i := 6) (oi := _) (v := _) rfl (by kernel_rfl) (by kernel_rfl) (by kernel_rfl) (fun _ _ _ h => h) (Or.inl ⟨by rfl, ?hz5⟩) (by assumption) ?rezt5
    case hz5 => (intro w' hSw; (try dsimp only at hSw); go_simp; try with_reducible rfl)
    try simp only [Act.put, List.setIfInBounds_toArray, List.set_cons_zero, List.set_cons_succ, List.getElem_toArray, List.getElem_cons_zero, List.getElem_cons_succ]
    refine' wpAnyH_take (i := 7) (oi := _) (v := _) rfl (by kernel_rfl) (by kernel_rfl) (by kernel_rfl) (fun _ _ _ h => h) (Or.inl ⟨by rfl, ?hz6⟩) (by assumption) ?rezt6
    case hz6 => (intro w' hSw; (try dsimp only at hSw); go_simp; try with_reducible rfl)
    try simp only [Act.put, List.setIfInBounds_toArray, List.set_cons_zero, List.set_cons_succ, List.getElem_toArray, List.getElem_cons_zero, List.getElem_cons_succ]
    refine wpAnyH_ready (rs := [2, 9]) (by kernel_rfl) (by simp) ?_
    refine AllReadyH.cons (o := _) rfl (fun K hK => ?_) (AllReadyH.cons (o := _) rfl (fun K hK => ?_) AllReadyH.nil)
    · go_simp
      refine hK.out _ _ ?_ (fun hHeld => ?_)
      · exact HJ2.out.keep ((Below.refl _ w2).alloc (Nat.le_refl _) _).drew
      clear hK K
      try simp only [Act.put, List.setIfInBounds_toArray, List.set_cons_zero, List.set_cons_succ, List.getElem_toArray, List.getElem_cons_zero, List.getElem_cons_succ]
      obtain ⟨wa1, hwa1⟩ : ∃ W, W = (w2.alloc (.cells #[] 55)).drew := ⟨_, rfl⟩
      have hba1 : Below w2.heap.size w2 wa1 := by rw [hwa1]; exact ((Below.refl _ w2).alloc (Nat.le_refl _) _).drew
      have HJa1 := Lib.hid (HJ2.out.keep hba1)
      have HCa1 := Lib.hid (show OwnCl wa1 w.heap.size (w.heap.size + 4) (some ⟨w2.heap.size, 0, none⟩) 0 0 [] by rw [hwa1]; exact (OwnCl.lit0 w2 _ _ HJ2.out.sz).keep (Below.refl _ _).drew)
      rw [← hwa1]
      clear hwa1
      refine wpAnyH_ready (rs := [5, 9]) (by kernel_rfl) (by simp) ?_
      refine AllReadyH.cons (o := _) rfl (fun K hK => ?_) (AllReadyH.cons (o := _) rfl (fun K hK => ?_) AllReadyH.nil)
      · refine step_append_cl2 rfl (.tmp 27) (.tmp 29) rfl w.heap.size (w.heap.size + 4) (by omega) _ 0 0 [] rfl HCa1.out A a.cs.length ca a.cs rfl rfl (Src.keepJ HJa1.out.xc0 HJa1.out.bel) (by have := HAF.out.1; omega) HJa1.out.sz ?_
        intro A3 c3 wa2 hown3 hb3 hty3
        rw [Nat.zero_add, List.nil_append] at hown3
        rw [Nat.zero_add]
        have HJa2 := Lib.hid (HJa1.out.keepB hb3)
        have HCa2 := Lib.hid hown3
        clear hown3 hb3 hty3
        refine hK.out _ _ ?_ (fun hHeld => ?_)
        · exact HJa2.out
        clear hK K
        try simp only [Act.put, List.setIfInBounds_toArray, List.set_cons_zero, List.set_cons_succ, List.getElem_toArray, List.getElem_cons_zero, List.getElem_cons_succ]
        refine' wpAnyH_take (i := 8) (oi := _) (v := _) rfl (by kernel_rfl) (by kernel_rfl) (by kernel_rfl) (fun _ _ _ h => h) (Or.inl ⟨by rfl, ?hz7⟩) (by assumption) ?rezt7
        case hz7 => (intro w' hSw; (try dsimp only at hSw); go_simp; try with_reducible rfl)
        try simp only [Act.put, List.setIfInBounds_toArray, List.set_cons_zero, List.set_cons_succ, List.getElem_toArray, List.getElem_cons_zero, List.getElem_cons_succ]
        refine wpAnyH_ready (rs := [9]) (by kernel_rfl) (by simp) ?_
        refine AllReadyH.cons (o := _) rfl (fun K hK => ?_) AllReadyH.nil
        go_simp
        refine hK.out _ _ ?_ (fun hHeld => ?_)
        · exact HJa2.out.keep ((Below.refl _ wa2).alloc (Nat.le_refl _) _)
        clear hK K
        try simp only [Act.put, List.setIfInBounds_toArray, List.set_cons_zero, List.set_cons_succ, List.getElem_toArray, List.getElem_cons_zero, List.getElem_cons_succ]
        obtain ⟨wa3, hwa3⟩ : ∃ W, W = (wa2.alloc (.cells #[.int .i64 0, .slice none 0 0, .int .i64 0] 69)) := ⟨_, rfl⟩
        have hba3 : Below wa2.heap.size wa2 wa3 := by rw [hwa3]; exact ((Below.refl _ wa2).alloc (Nat.le_refl _) _)
        have HJa3 := Lib.hid (HJa2.out.keep hba3)
        have hlo := HJa2.out.sz
        have HTa3 := Lib.hid (show (wa3).there wa2.heap.size 0 3 by rw [hwa3]; exact there_new3 wa2 _ _ _ _)
        have HYa3 := Lib.hid (show TyAt wa3 wa2.heap.size 69 by rw [hwa3]; exact TyAt.new wa2 _ _)
        have HCa3 := Lib.hid (HCa2.out.keep hba3)
        rw [← hwa3]
        clear hwa3
        refine wpAnyH_ready (rs := [10]) (by kernel_rfl) (by simp) ?_
        refine AllReadyH.cons (o := _) rfl (fun K hK => ?_) AllReadyH.nil
        refine step_store_nd rfl _ _ rfl _ ⟨a.kind, b.right, a.cs⟩ A3 c3 rfl rfl HTa3.out ?_
        refine hK.out _ _ ?_ (fun hHeld => ?_)
        · exact HJa3.out.keepB (below_setCellsR (Below.refl _ _) hlo _ _)
        clear hK K
        try simp only [Act.put, List.setIfInBounds_toArray, List.set_cons_zero, List.set_cons_succ, List.getElem_toArray, List.getElem_cons_zero, List.getElem_cons_succ]
        refine wpAnyH_done (by kernel_rfl) ?_ _
        go_wp2_with fail
        go_meet
        exact ⟨_, A3, c3, rfl, HJa3.out.keepB (below_setCellsR (Below.refl _ _) hlo _ _), Ou.put hlo HTa3.out HYa3.out _ _ _, HCa3.out.ty HYa3.out (by decide) (by decide) (by omega) (fun i hi _ => heap_setCells_ne _ _ _ _ hi)⟩
      · go_simp
        refine hK.out _ _ ?_ (fun hHeld => ?_)
        · exact HJa1.out.keep ((Below.refl _ wa1).alloc (Nat.le_refl _) _)
        clear hK K
        try simp only [Act.put, List.setIfInBounds_toArray, List.set_cons_zero, List.set_cons_succ, List.getElem_toArray, List.getElem_cons_zero, List.getElem_cons_succ]
        obtain ⟨wb2, hwb2⟩ : ∃ W, W = (wa1.alloc (.cells #[.int .i64 0, .slice none 0 0, .int .i64 0] 69)) := ⟨_, rfl⟩
        have hbb2 : Below wa1.heap.size wa1 wb2 := by rw [hwb2]; exact ((Below.refl _ wa1).alloc (Nat.le_refl _) _)
        have HJb2 := Lib.hid (HJa1.out.keep hbb2)
        have hlo := HJa1.out.sz
        have HTb2 := Lib.hid (show (wb2).there wa1.heap.size 0 3 by rw [hwb2]; exact there_new3 wa1 _ _ _ _)
        have HYb2 := Lib.hid (show TyAt wb2 wa1.heap.size 69 by rw [hwb2]; exact TyAt.new wa1 _ _)
        have HCb2 := Lib.hid (HCa1.out.keep hbb2)
        rw [← hwb2]
        clear hwb2
        refine wpAnyH_ready (rs := [5]) (by kernel_rfl) (by simp) ?_
        refine AllReadyH.cons (o := _) rfl (fun K hK => ?_) AllReadyH.nil
        refine step_append_cl2 rfl (.tmp 27) (.tmp 29) rfl w.heap.size (w.heap.size + 4) (by omega) _ 0 0 [] rfl HCb2.out A a.cs.length ca a.cs rfl rfl (Src.keepJ HJb2.out.xc0 HJb2.out.bel) (by have := HAF.out.1; omega) HJb2.out.sz ?_
        intro A3 c3 wb3 hown3 hb3 hty3
        rw [Nat.zero_add, List.nil_append] at hown3
        rw [Nat.zero_add]
        have HJb3 := Lib.hid (HJb2.out.keepB hb3)
        have HCb3 := Lib.hid hown3
        have HTb3 := Lib.hid (there_same (hty3 _ _ HYb2.out (by decide)) HTb2.out)
        have HYb3 := Lib.hid (HYb2.out.same (hty3 _ _ HYb2.out (by decide)))
        clear hown3 hb3 hty3
        refine hK.out _ _ ?_ (fun hHeld => ?_)
        · exact HJb3.out
        clear hK K
        try simp only [Act.put, List.setIfInBounds_toArray, List.set_cons_zero, List.set_cons_succ, List.getElem_toArray, List.getElem_cons_zero, List.getElem_cons_succ]
        refine' wpAnyH_take (i := 8) (oi := _) (v := _) rfl (by kernel_rfl) (by kernel_rfl) (by kernel_rfl) (fun _ _ _ h => h) (Or.inl ⟨by rfl, ?hz8⟩) (by assumption) ?rezt8
        case hz8 => (intro w' hSw; (try dsimp only at hSw); go_simp; try with_reducible rfl)
        try simp only [Act.put, List.setIfInBounds_toArray, List.set_cons_zero, List.set_cons_succ, List.getElem_toArray, List.getElem_cons_zero, List.getElem_cons_succ]
        refine wpAnyH_ready (rs := [10]) (by kernel_rfl) (by simp) ?_
        refine AllReadyH.cons (o := _) rfl (fun K hK => ?_) AllReadyH.nil
        refine step_store_nd rfl _ _ rfl _ ⟨a.kind, b.right, a.cs⟩ A3 c3 rfl rfl HTb3.out ?_
        refine hK.out _ _ ?_ (fun hHeld => ?_)
        · exact HJb3.out.keepB (below_setCellsR (Below.refl _ _) hlo _ _)
        clear hK K
        try simp only [Act.put, List.setIfInBounds_toArray, List.set_cons_zero, List.set_cons_succ, List.getElem_toArray, List.getElem_cons_zero, List.getElem_cons_succ]
        refine wpAnyH_done (by kernel_rfl) ?_ _
        go_wp2_with fail
        go_meet
        exact ⟨_, A3, c3, rfl, HJb3.out.keepB (below_setCellsR (Below.refl _ _) hlo _ _), Ou.put hlo HTb3.out HYb3.out _ _ _, HCb3.out.ty HYb3.out (by decide) (by decide) (by omega) (fun i hi _ => heap_setCells_ne _ _ _ _ hi)⟩
    · go_simp
      refine hK.out _ _ ?_ (fun hHeld => ?_)
      · exact HJ2.out.keep ((Below.refl _ w2).alloc (Nat.le_refl _) _).drew
      clear hK K
      try simp only [Act.put, List.setIfInBounds_toArray, List.set_cons_zero, List.set_cons_succ, List.getElem_toArray, List.getElem_cons_zero, List.getElem_cons_succ]
      obtain ⟨wc1, hwc1⟩ : ∃ W, W = (w2.alloc (.cells #[.int .i64 0, .slice none 0 0, .int .i64 0] 69)).drew := ⟨_, rfl⟩
      have hbc1 : Below w2.heap.size w2 wc1 := by rw [hwc1]; exact ((Below.refl _ w2).alloc (Nat.le_refl _) _).drew
      have HJc1 := Lib.hid (HJ2.out.keep hbc1)
      have hlo := HJ2.out.sz
      have HTc1 := Lib.hid (show (wc1).there w2.heap.size 0 3 by rw [hwc1]; exact there_keepR (there_new3 w2 _ _ _ _) (Below.refl (w2.heap.size + 1) _).drew (Nat.lt_succ_self _))
      have HYc1 := Lib.hid (show TyAt wc1 w2.heap.size 69 by rw [hwc1]; exact (TyAt.new w2 _ _).keepB (Below.refl (w2.heap.size + 1) _).drew (Nat.lt_succ_self _))
      rw [← hwc1]
      clear hwc1
      refine wpAnyH_ready (rs := [2]) (by kernel_rfl) (by simp) ?_
      refine AllReadyH.cons (o := _) rfl (fun K hK => ?_) AllReadyH.nil
      go_simp
      refine hK.out _ _ ?_ (fun hHeld => ?_)
      · exact HJc1.out.keep ((Below.refl _ wc1).alloc (Nat.le_refl _) _)
      clear hK K
      try simp only [Act.put, List.setIfInBounds_toArray, List.set_cons_zero, List.set_cons_succ, List.getElem_toArray, List.getElem_cons_zero, List.getElem_cons_succ]
      obtain ⟨wc2, hwc2⟩ : ∃ W, W = (wc1.alloc (.cells #[] 55)) := ⟨_, rfl⟩
      have hbc2 : Below wc1.heap.size wc1 wc2 := by rw [hwc2]; exact ((Below.refl _ wc1).alloc (Nat.le_refl _) _)
      have HJc2 := Lib.hid (HJc1.out.keep hbc2)
      have HCc2 := Lib.hid (show OwnCl wc2 w.heap.size (w.heap.size + 4) (some ⟨wc1.heap.size, 0, none⟩) 0 0 [] by rw [hwc2]; exact OwnCl.lit0 wc1 _ _ HJc1.out.sz)
      have HTc2 := Lib.hid (there_keepR HTc1.out hbc2 (HYc1.out).lt)
      have HYc2 := Lib.hid (HYc1.out.keepB hbc2 (HYc1.out).lt)
      rw [← hwc2]
      clear hwc2
      refine wpAnyH_ready (rs := [5]) (by kernel_rfl) (by simp) ?_
      refine AllReadyH.cons (o := _) rfl (fun K hK => ?_) AllReadyH.nil
      refine step_append_cl2 rfl (.tmp 27) (.tmp 29) rfl w.heap.size (w.heap.size + 4) (by omega) _ 0 0 [] rfl HCc2.out A a.cs.length ca a.cs rfl rfl (Src.keepJ HJc2.out.xc0 HJc2.out.bel) (by have := HAF.out.1; omega) HJc2.out.sz ?_
      intro A3 c3 wc3 hown3 hb3 hty3
      rw [Nat.zero_add, List.nil_append] at hown3
      rw [Nat.zero_add]
      have HJc3 := Lib.hid (HJc2.out.keepB hb3)
      have HCc3 := Lib.hid hown3
      have HTc3 := Lib.hid (there_same (hty3 _ _ HYc2.out (by decide)) HTc2.out)
      have HYc3 := Lib.hid (HYc2.out.same (hty3 _ _ HYc2.out (by decide)))
      clear hown3 hb3 hty3
      refine hK.out _ _ ?_ (fun hHeld => ?_)
      · exact HJc3.out
      clear hK K
      try simp only [Act.put, List.setIfInBounds_toArray, List.set_cons_zero, List.set_cons_succ, List.getElem_toArray, List.getElem_cons_zero, List.getElem_cons_succ]
      refine' wpAnyH_take (i := 8) (oi := _) (v := _) rfl (by kernel_rfl) (by kernel_rfl) (by kernel_rfl) (fun _ _ _ h => h) (Or.inl ⟨by rfl, ?hz9⟩) (by assumption) ?rezt9
      case hz9 => (intro w' hSw; (try dsimp only at hSw); go_simp; try with_reducible rfl)
      try simp only [Act.put, List.setIfInBounds_toArray, List.set_cons_zero, List.set_cons_succ, List.getElem_toArray, List.getElem_cons_zero, List.getElem_cons_succ]
      refine wpAnyH_ready (rs := [10]) (by kernel_rfl) (by simp) ?_
      refine AllReadyH.cons (o := _) rfl (fun K hK => ?_) AllReadyH.nil
      refine step_store_nd rfl _ _ rfl _ ⟨a.kind, b.right, a.cs⟩ A3 c3 rfl rfl HTc3.out ?_
      refine hK.out _ _ ?_ (fun hHeld => ?_)
      · exact HJc3.out.keepB (below_setCellsR (Below.refl _ _) hlo _ _)
      clear hK K
      try simp only [Act.put, List.setIfInBounds_toArray, List.set_cons_zero, List.set_cons_succ, List.getElem_toArray, List.getElem_cons_zero, List.getElem_cons_succ]
      refine wpAnyH_done (by kernel_rfl) ?_ _
      go_wp2_with fail
      go_meet
      exact ⟨_, A3, c3, rfl, HJc3.out.keepB (below_setCellsR (Below.refl _ _) hlo _ _), Ou.put hlo HTc3.out HYc3.out _ _ _, HCc3.out.ty HYc3.out (by decide) (by decide) (by omega) (fun i hi _ => heap_setCells_ne _ _ _ _ hi)⟩
  case rest =>
    rename World => w4
    obtain ⟨g, A3, c3, rfl, hj4, ho4, hc4⟩ := hcut
    have HJ4 := Lib.hid hj4
    have HO4 := Lib.hid ho4
    have HC4 := Lib.hid hc4
    clear hj4 ho4 hc4
    have hz4 := HJ4.out.sz
    obtain ⟨x0, x1, x2⟩ := HJ4.out.x.all
    have hal := HAF.out.1
    have hbl := HBF.out.1
    by_cases hk1 : a.kind = 1
    · have q2 : (a.kind != 1) = false := by simp [hk1]
      have HK1 := Lib.hid hk1
      clear hk1
      have HJ := HJ4
      have HO := HO4
      have HC := HC4
      obtain ⟨y0, y1, y2⟩ := HJ.out.y.all
      have m1 := HO.out.at_.all.2.1
      have hzj := HJ.out.sz
      go_upto_region 9 with fail
      iterate 13 go_step
      refine wp_append_cl2 rfl (.tmp 53) (.tmp 55) rfl w.heap.size (w.heap.size + 4) (by omega) _ _ _ _ rfl HC.out B b.cs.length cb b.cs rfl rfl (Src.keepJ HJ.out.yc0 HJ.out.bel) (by omega) hzj ?_
      intro A9 c9 w9 hown9 hb9 hty9
      have HJ9 := Lib.hid (HJ.out.keepB hb9)
      have HO9 := Lib.hid (HO.out.same (hty9 g _ HO.out.ty (by decide)))
      have HC9 := Lib.hid hown9
      clear hown9 hb9 hty9 m1 y0 y1 y2
      try clear x0 x1 x2
      have m9 := HO9.out.at_.all.2.1
      have f9 := (HO9.out.there 1 (by decide)).2
      rw [Nat.zero_add] at f9
      obtain ⟨wa, hwa⟩ : ∃ W, W = w9.setCell ⟨g, 1, none⟩ (.slice A9 ((a.cs).length + b.cs.length) c9) := ⟨_, rfl⟩
      have hlen : ((a.cs) ++ b.cs).length = (a.cs).length + b.cs.length := List.length_append
      have HOa := Lib.hid (show Ou w wa g ⟨a.kind, b.right, (a.cs) ++ b.cs⟩ A9 c9 by rw [hwa, ← hlen]; exact HO9.out.setCs _ A9 c9)
      have HJa := Lib.hid (show Jn w wa a A ca s S d b B cb by rw [hwa]; exact HJ9.out.keepB ((Below.refl _ _).setCell (by exact HO9.out.lo) _))
      have HCa := Lib.hid (show OwnCl wa w.heap.size (w.heap.size + 4) A9 ((a.cs) ++ b.cs).length c9 ((a.cs) ++ b.cs) by
        rw [hlen, hwa]
        exact HC9.out.ty HO9.out.ty (by decide) (by decide) (by have := HO9.out.lo; omega) (fun i hi _ => heap_setG_ne _ _ _ hi))
      have HEQ := Lib.hid (show joinM a s b = ⟨a.kind, b.right, a.cs ++ b.cs⟩ by unfold joinM midJ; rw [if_pos HK1.out, List.append_nil])
      have HOK := Lib.hid (show joinOk a s b from ⟨HMAY.out, fun h => absurd HK1.out h⟩)
      have HWA := Lib.hid hwa
      clear hwa hlen
      go_upto_region 10 with fail
      rw [← HWA.out]
      clear HWA HO9 HJ9 HC9 m9 f9
      obtain ⟨mf, hmf⟩ : ∃ x : Nd, (⟨a.kind, b.right, (a.cs) ++ b.cs⟩ : Nd) = x := ⟨_, rfl⟩
      have hcf : (a.cs) ++ b.cs = mf.cs := by rw [← hmf]
      rw [hcf] at HCa
      rw [hmf] at HOa HEQ
      clear hmf hcf
      go_step
      refine wp_load_nd rfl _ rfl g mf A9 c9 rfl HOa.out.at_ ?_
      refine wp_store_nd rfl _ _ rfl (w.heap.size + 3) mf A9 c9 rfl rfl HJa.out.o ?_
      repeat go_step
      refine ret_nd rfl rfl (NdAt.stored HJa.out.o mf A9 c9) rfl ?_
      rw [HR.out]
      refine ⟨below_setCellsR HJa.out.bel (by omega) _ _, .inr ⟨HOK.out, A9, c9, by rw [HEQ.out]; rfl, ?_⟩⟩
      rw [HEQ.out]
      exact (HCa.out.mono (show w.heap.size ≤ w.heap.size + 4 by omega)).ty HJa.out.oty (by decide) (by decide) (by omega) (fun i hi _ => heap_setCells_ne _ _ _ _ hi)
    · have q2 : (a.kind != 1) = true := by simp [hk1]
      have HK1 := Lib.hid hk1
      clear hk1
      have c1 := HJ4.out.sg 1 _ rfl
      rw [Nat.zero_add] at c1
      have f1 := (HJ4.out.st 1 (by decide)).2
      rw [Nat.zero_add] at f1
      obtain ⟨w5, hw5⟩ : ∃ W, W = w4.setCell ⟨w.heap.size + 1, 1, none⟩ (.int .i64 a.right) := ⟨_, rfl⟩
      have HJ5 := Lib.hid (show Jn w w5 a A ca (sepOf a s) S d b B cb by rw [hw5]; exact HJ4.out.setS a.right)
      have HO5 := Lib.hid (show Ou w w5 g ⟨a.kind, b.right, a.cs⟩ A3 c3 by rw [hw5]; exact HO4.out.same (heap_setG_ne _ _ _ (by have := HO4.out.lo; show g ≠ w.heap.size + 1; omega)))
      have HC5 := Lib.hid (show OwnCl w5 w.heap.size (w.heap.size + 4) A3 a.cs.length c3 a.cs by rw [hw5]; exact HC4.out.low HJ4.out.sty (by omega) (by decide) (by omega) (fun i hi _ => heap_setG_ne _ _ _ hi))
      have HW5 := Lib.hid hw5
      clear hw5
      go_upto_region 6 with fail
      rw [← HW5.out]
      clear HW5 c1 f1 x0 x1 x2
      obtain ⟨x0, x1, x2⟩ := HJ5.out.x.all
      iterate 7 go_step
      refine wp_load_clo rfl _ rfl (w.heap.size + 1) 0 (sepOf a s) S (sepOf a s).loc.length d rfl HJ5.out.sg ?_
      go_wp2_with fail
      refine (rcheckC_any _ a.kind (sepOf a s) S (sepOf a s).loc.length d ⟨HSO.out.1.1, HAO.out.2.1, HSO.out.1.2.2.1, HSO.out.1.2.2.2⟩ (by show (s.loc.length : Int) ≤ _; omega)).mono ?_
      rintro e w6 ⟨rfl, hb6⟩
      have HJ6 := Lib.hid (HJ5.out.keep hb6)
      have HO6 := Lib.hid (HO5.out.keep hb6)
      have HC6 := Lib.hid (HC5.out.keep hb6)
      have hz6 := HJ6.out.sz
      clear hb6 HJ5 HO5 HC5 HJ4 HO4 HC4 x0 x1 x2
      unfold checkZ
      by_cases hg : goodC a.kind (sepOf a s) (sepOf a s).loc.length
      case neg =>
        have HF := Lib.hid (show ¬ joinOk a s b from fun h => hg (h.2 HK1.out))
        rw [if_neg hg]
        clear hg
        go_upto_region 7 with fail
        iterate 4 go_step
        refine wp_store_nd rfl _ _ rfl (w.heap.size + 3) zeroN none 0 rfl rfl HJ6.out.o ?_
        repeat go_step
        refine ret_nd rfl rfl (NdAt.stored HJ6.out.o zeroN none 0) rfl ?_
        rw [HR.out]
        exact ⟨below_setCellsR HJ6.out.bel (by omega) _ _, .inl ⟨HF.out, rfl⟩⟩
      have HG := Lib.hid hg
      rw [if_pos hg]
      clear hg
      have m1 := HO6.out.at_.all.2.1
      go_upto_region 8 with fail
      iterate 7 go_step
      clear m1
      refine wp_load_clg5 rfl _ rfl (w.heap.size + 1) (sepOf a s) S s.loc.length d rfl HJ6.out.sg ?_
      iterate 3 go_step
      have hba : Below w6.heap.size w6 (w6.alloc (.cells #[.int .i64 s.key, .int .i64 a.right, .int .i64 s.total, .slice S s.loc.length d, .int .i64 s.spill] 55)) := (Below.refl _ _).alloc (Nat.le_refl _) _
      have HJb := Lib.hid (HJ6.out.keep hba)
      have HOb := Lib.hid (HO6.out.keep hba)
      have hzb := HJb.out.sz
      refine wp_append_cl2 rfl (.tmp 47) (.tmp 49) rfl w.heap.size (w.heap.size + 4) (by omega) _ _ _ _ rfl (HC6.out.keep hba) _ 1 1 [sepOf a s] rfl rfl (.inr ⟨_, 0, clC (sepOf a s) S s.loc.length d, rfl, fun t u hu => by
        rw [Nat.zero_add, heap_cell (heap_alloc_new w6 _)]
        simpa [clC, sepOf] using hu, HJb.out.srcS hd hdm⟩) (by omega) hzb ?_
      intro A9 c9 w9 hown9 hb9 hty9
      have HJ9 := Lib.hid (HJb.out.keepB hb9)
      have HO9 := Lib.hid (HOb.out.same (hty9 g _ HOb.out.ty (by decide)))
      have HC9 := Lib.hid hown9
      clear hown9 hb9 hty9 hba HJb HOb hzb HJ6 HO6 HC6
      have m9 := HO9.out.at_.all.2.1
      have f9 := (HO9.out.there 1 (by decide)).2
      rw [Nat.zero_add] at f9
      obtain ⟨wa, hwa⟩ : ∃ W, W = w9.setCell ⟨g, 1, none⟩ (.slice A9 (a.cs.length + 1) c9) := ⟨_, rfl⟩
      have hlen : (a.cs ++ [sepOf a s]).length = a.cs.length + 1 := List.length_append
      have HO := Lib.hid (show Ou w wa g ⟨a.kind, b.right, a.cs ++ [sepOf a s]⟩ A9 c9 by rw [hwa, ← hlen]; exact HO9.out.setCs _ A9 c9)
      have HJ := Lib.hid (show Jn w wa a A ca (sepOf a s) S d b B cb by rw [hwa]; exact HJ9.out.keepB ((Below.refl _ _).setCell (by exact HO9.out.lo) _))
      have HC := Lib.hid (show OwnCl wa w.heap.size (w.heap.size + 4) A9 (a.cs ++ [sepOf a s]).length c9 (a.cs ++ [sepOf a s]) by
        rw [hlen, hwa]
        exact HC9.out.ty HO9.out.ty (by decide) (by decide) (by have := HO9.out.lo; omega) (fun i hi _ => heap_setG_ne _ _ _ hi))
      have HWA := Lib.hid hwa
      clear hwa hlen
      go_upto_region 9 with fail
      rw [← HWA.out]
      clear HWA HO9 HJ9 HC9 m9 f9
      obtain ⟨cs1, hcs1⟩ : ∃ x, a.cs ++ [sepOf a s] = x := ⟨_, rfl⟩
      have hl1 : cs1.length = a.cs.length + 1 := by rw [← hcs1, List.length_append]; rfl
      rw [hcs1] at HO HC
      have HCS := Lib.hid hcs1
      clear hcs1
      try rw [show a.cs.length + 1 = cs1.length from hl1.symm]
      have hl2 : cs1.length ≤ 401 := by omega
      clear hl1
      obtain ⟨y0, y1, y2⟩ := HJ.out.y.all
      have m1 := HO.out.at_.all.2.1
      have hzj := HJ.out.sz
      go_upto_region 9 with fail
      iterate 13 go_step
      refine wp_append_cl2 rfl (.tmp 53) (.tmp 55) rfl w.heap.size (w.heap.size + 4) (by omega) _ _ _ _ rfl HC.out B b.cs.length cb b.cs rfl rfl (Src.keepJ HJ.out.yc0 HJ.out.bel) (by omega) hzj ?_
      intro A9 c9 w9 hown9 hb9 hty9
      have HJ9 := Lib.hid (HJ.out.keepB hb9)
      have HO9 := Lib.hid (HO.out.same (hty9 g _ HO.out.ty (by decide)))
      have HC9 := Lib.hid hown9
      clear hown9 hb9 hty9 m1 y0 y1 y2
      try clear x0 x1 x2
      have m9 := HO9.out.at_.all.2.1
      have f9 := (HO9.out.there 1 (by decide)).2
      rw [Nat.zero_add] at f9
      obtain ⟨wa, hwa⟩ : ∃ W, W = w9.setCell ⟨g, 1, none⟩ (.slice A9 ((cs1).length + b.cs.length) c9) := ⟨_, rfl⟩
      have hlen : ((cs1) ++ b.cs).length = (cs1).length + b.cs.length := List.length_append
      have HOa := Lib.hid (show Ou w wa g ⟨a.kind, b.right, (cs1) ++ b.cs⟩ A9 c9 by rw [hwa, ← hlen]; exact HO9.out.setCs _ A9 c9)
      have HJa := Lib.hid (show Jn w wa a A ca (sepOf a s) S d b B cb by rw [hwa]; exact HJ9.out.keepB ((Below.refl _ _).setCell (by exact HO9.out.lo) _))
      have HCa := Lib.hid (show OwnCl wa w.heap.size (w.heap.size + 4) A9 ((cs1) ++ b.cs).length c9 ((cs1) ++ b.cs) by
        rw [hlen, hwa]
        exact HC9.out.ty HO9.out.ty (by decide) (by decide) (by have := HO9.out.lo; omega) (fun i hi _ => heap_setG_ne _ _ _ hi))
      have HEQ := Lib.hid (show joinM a s b = ⟨a.kind, b.right, cs1 ++ b.cs⟩ by unfold joinM midJ; rw [if_neg HK1.out, HCS.out])
      have HOK := Lib.hid (show joinOk a s b from ⟨HMAY.out, fun _ => HG.out⟩)
      have HWA := Lib.hid hwa
      clear hwa hlen
      go_upto_region 10 with fail
      rw [← HWA.out]
      clear HWA HO9 HJ9 HC9 m9 f9
      obtain ⟨mf, hmf⟩ : ∃ x : Nd, (⟨a.kind, b.right, (cs1) ++ b.cs⟩ : Nd) = x := ⟨_, rfl⟩
      have hcf : (cs1) ++ b.cs = mf.cs := by rw [← hmf]
      rw [hcf] at HCa
      rw [hmf] at HOa HEQ
      clear hmf hcf
      go_step
      refine wp_load_nd rfl _ rfl g mf A9 c9 rfl HOa.out.at_ ?_
      refine wp_store_nd rfl _ _ rfl (w.heap.size + 3) mf A9 c9 rfl rfl HJa.out.o ?_
      repeat go_step
      refine ret_nd rfl rfl (NdAt.stored HJa.out.o mf A9 c9) rfl ?_
      rw [HR.out]
      refine ⟨below_setCellsR HJa.out.bel (by omega) _ _, .inr ⟨HOK.out, A9, c9, by rw [HEQ.out]; rfl, ?_⟩⟩
      rw [HEQ.out]
      exact (HCa.out.mono (show w.heap.size ≤ w.heap.size + 4 by omega)).ty HJa.out.oty (by decide) (by decide) (by omega) (fun i hi _ => heap_setCells_ne _ _ _ _ hi)
end
section
open Go.RowKit
set_option maxRecDepth 100000
set_option linter.unusedVariables false
set_option linter.unusedSimpArgs false
set_option linter.unnecessarySimpa false
set_option maxHeartbeats 16000000 in
theorem nFits_any (w : World) (n : Nd) (A : Option Addr) (c : Nat) (s : Int) (hs : i64b s) (hn : n.cs.length ≤ 5000) (hok : NdOk n) (hl : ∀ d ∈ n.cs, d.loc.length ≤ 16384) (hA : RdCl w A n.cs) (R : Ending → World → Prop) (hR : R = fun e w' => e = .returned (.bool (decide (okN n s ∧ fitN n s))) ∧ Below w.heap.size w w') :
    Calls Try.prog 43 #[n.val A c, .int .i64 s] w R := by
  have HR := Lib.hid hR; clear hR
  have HOK := Lib.hid hok
  have HL63 := Lib.hid (show ∀ d ∈ n.cs, (d.loc.length : Int) ≤ 9223372036854775807 from fun d hd => by have := hl d hd; omega)
  have HCK := Lib.hid (show ∀ d ∈ n.cs, ClOk d ∧ d.loc.length ≤ 16384 from fun d hd => ⟨hok.2.2 d hd, hl d hd⟩)
  obtain ⟨W0, hW0⟩ : ∃ W, W = w.alloc (.cells #[.int .i64 n.kind, .slice A n.cs.length c, .int .i64 n.right] 69) := ⟨_, rfl⟩
  have HBX := Lib.hid (Bx.of hW0 hA)
  have HW := Lib.hid hW0
  clear hW0 hok hl hA
  have hB0 := HBX.out.bel
  have hs0 := HBX.out.sz
  unfold Nd.val
  go_enter Try.func43, Try.ntmps43
  go_upto_region 1 with fail
  rw [← HW.out]
  clear HW
  go_wp2_with fail
  refine (isSize_any _ s hs).mono ?_
  rintro e w1 ⟨rfl, rfl⟩
  by_cases hsz : isSz s
  case neg =>
    have HF := Lib.hid (show decide (okN n s ∧ fitN n s) = false from decide_eq_false (fun h => hsz h.1.1))
    rw [decide_eq_false hsz]
    clear hsz
    go_wp2_with fail
    rw [HR.out, HF.out]
    exact ⟨rfl, hB0⟩
  have HSZ := Lib.hid hsz
  rw [decide_eq_true hsz]
  clear hsz
  simp only []
  iterate 4 go_step
  refine wp_load_ndg rfl _ rfl w.heap.size n A c rfl HBX.out.at_ ?_
  go_wp2_with fail
  refine (right_any _ n A c (by omega) HOK.out HL63.out HBX.out.cs _ rfl).mono ?_
  rintro e w2 ⟨rfl, hb2⟩
  have hb02 : Below w.heap.size w w2 := hB0.trans (hb2.mono hs0)
  by_cases hm : mayN n
  case neg =>
    have HF := Lib.hid (show decide (okN n s ∧ fitN n s) = false from decide_eq_false (fun h => hm h.1.2))
    rw [decide_eq_false hm]
    clear hm
    go_wp2_with fail
    rw [HR.out, HF.out]
    exact ⟨rfl, hb02⟩
  have HM := Lib.hid hm
  rw [decide_eq_true hm]
  clear hm
  simp only []
  iterate 7 go_step
  refine wp_load_ndg rfl _ rfl w.heap.size n A c rfl (HBX.out.at_.keep hb2) ?_
  go_wp2_with fail
  refine (fits_any _ n A c s HSZ.out hn HCK.out (HBX.out.cs.keep hb2)).mono ?_
  rintro e w3 ⟨rfl, hb3⟩
  have hb03 : Below w.heap.size w w3 := hb02.trans (hb3.mono hb02.size)
  have HE : Hid (decide ((takesN n.kind n.cs : Int) ≤ s - 10) = decide (okN n s ∧ fitN n s)) := Lib.hid (by
    refine decide_eq_decide.2 ⟨fun h => ⟨⟨HSZ.out, HM.out⟩, h⟩, fun h => h.2⟩)
  rw [HE.out]
  obtain ⟨v, hv⟩ : ∃ v, decide (okN n s ∧ fitN n s) = v := ⟨_, rfl⟩
  rw [hv]
  have HV := Lib.hid hv
  clear hv
  go_wp2_with fail
  rw [HR.out, HV.out]
  exact ⟨rfl, hb03⟩

def e0 : Nd := ⟨1, 0, []⟩
def xN : Nd := ⟨2, 2, [⟨5, 1, 0, 0, []⟩]⟩
def yN : Nd := ⟨2, 4, [⟨12, 3, 0, 0, []⟩]⟩
def sN : Cl := ⟨9, 0, 0, 0, []⟩
def wantN : Nd := ⟨2, 4, [⟨5, 1, 0, 0, []⟩, ⟨9, 2, 0, 0, []⟩, ⟨12, 3, 0, 0, []⟩]⟩
theorem e0_ok : okN e0 256 := by decide
theorem e0_fit : fitN e0 256 := by decide
theorem x_ok : okN xN 256 := by decide
theorem x_fit : fitN xN 256 := by
  have h1 := varL_len (n := 1) (by omega)
  have h5 := varL_len (n := 5) (by omega)
  have e : (encC 2 ⟨5, 1, 0, 0, []⟩).length ≤ 20 := by
    unfold encC
    rw [if_pos (by decide)]
    unfold cellB childB keyB loadB
    rw [if_pos (by decide), if_pos (by decide), if_pos rfl]
    simp only [List.length_append, List.length_nil]
    omega
  have e2 : takesN xN.kind xN.cs = (encC 2 ⟨5, 1, 0, 0, []⟩).length + 4 := by simp [takesN, tkC, xN]
  unfold fitN
  rw [e2]
  omega
theorem xy_ok : joinOk xN sN yN := by decide
theorem xy_eq : joinM xN sN yN = wantN := by decide
theorem e0_page {L : List Int} (h : IsP L (nodeM e0 256)) : L.length = 256 ∧ L.take 8 = [1, 0, 0, 0, 0, 0, 0, 0] := by
  have hl : L.length = 256 := h.len
  refine ⟨hl, ?_⟩
  have hF : (nodeM e0 256).F = [1, 0, 0, 0, 0, 0, 0, 0] := by decide
  have hh : (nodeM e0 256).h = 8 := by decide
  apply List.ext_getElem
  · rw [List.length_take, hl]; rfl
  · intro i h1 h2
    have hi : i < 8 := by simpa using h2
    have := h.front i (by rw [hh]; exact hi)
    rw [hF] at this
    rw [List.getElem_take]
    have e1 : bt L i = L[i] := by simp [bt, show i < L.length by omega]
    have e2 : bt [1, 0, 0, 0, 0, 0, 0, 0] i = [(1 : Int), 0, 0, 0, 0, 0, 0, 0][i] := by simp [bt, hi]
    rw [← e1, this, e2]
theorem zeros_no : ¬ decOk (List.replicate 256 0) := by
  intro h
  have := h.2.1.2.1.1
  have e : (nodeOf (List.replicate 256 0)).kind = 0 := by show bt (List.replicate 256 0) 0 = 0; decide
  rw [e] at this
  unfold isK at this
  omega
end
section
open Go.RowKit
set_option maxRecDepth 100000
set_option linter.unusedVariables false
set_option linter.unusedSimpArgs false
set_option linter.unnecessarySimpa false
theorem lay_node {w W : World} (n : Nd) (vs : Array Value) (hv : ∀ W, CellVals W 0 n.cs vs.toList) (c : Nat) {T1 T2 : TypeId}
    (hW : W = ((w.alloc (.cells vs T1)).alloc (.cells #[.int .i64 0, .slice none 0 0, .int .i64 0] T2)).setCells (w.heap.size + 1) 0 (ndC n (some ⟨w.heap.size, 0, none⟩) c)) :
    NdAt W (w.heap.size + 1) n (some ⟨w.heap.size, 0, none⟩) c ∧ RdCl W (some ⟨w.heap.size, 0, none⟩) n.cs ∧ Below w.heap.size w W ∧ w.heap.size + 1 < W.heap.size := by
  obtain ⟨W1, h1⟩ : ∃ W, W = w.alloc (.cells vs T1) := ⟨_, rfl⟩
  rw [← h1] at hW
  have e1 : W1.heap.size = w.heap.size + 1 := by rw [h1]; simp
  have b1 : Below w.heap.size w W1 := by rw [h1]; exact (Below.refl _ _).alloc (Nat.le_refl _) _
  have s1 : Src W1 0 (some ⟨w.heap.size, 0, none⟩) n.cs := .inr ⟨_, 0, vs.toList, rfl, fun j u hu => by
    rw [h1, Nat.zero_add, heap_cell (heap_alloc_new w _)]
    simpa using hu, hv W1⟩
  have ht : (W1.alloc (.cells #[.int .i64 0, .slice none 0 0, .int .i64 0] T2)).there (w.heap.size + 1) 0 3 := by rw [← e1]; exact there_new3 W1 _ _ _ _
  have b2 : Below W1.heap.size W1 W := by rw [hW]; exact below_setCellsR ((Below.refl _ _).alloc (Nat.le_refl _) _) (by omega) _ _
  refine ⟨by rw [hW]; exact NdAt.stored ht _ _ _, (s1.keep b2).rd, b1.trans (b2.mono (by omega)), ?_⟩
  rw [hW, size_setCells]
  simp [e1]
theorem cv1 (W : World) (k ch t sp : Int) : CellVals W 0 [⟨k, ch, t, sp, []⟩] [.int .i64 k, .int .i64 ch, .int .i64 t, .slice none 0 0, .int .i64 sp] :=
  CellVals.one (c := ⟨k, ch, t, sp, []⟩) (LA := none) (d := 0) (Nat.le_refl _) (by unfold maxLen; omega) (.inl ⟨.inl rfl, fun a h => by cases h⟩)
theorem small_ok {n : Nd} (h1 : -100 ≤ n.kind ∧ n.kind ≤ 100) (h2 : -100 ≤ n.right ∧ n.right ≤ 100) (h : ∀ c ∈ n.cs, (-100 ≤ c.key ∧ c.key ≤ 100) ∧ (-100 ≤ c.child ∧ c.child ≤ 100) ∧ c.total = 0 ∧ c.spill = 0 ∧ c.loc = []) : NdOk n := by
  refine ⟨by unfold i64b; omega, by unfold i64b; omega, fun c hc => ?_⟩
  obtain ⟨k1, k2, k3, k4, k5⟩ := h c hc
  exact ⟨⟨by omega, by omega, by omega, by omega⟩, by rw [k5]; simp [IsB]⟩
theorem x_nd : NdOk xN := small_ok (by decide) (by decide) (by decide)
theorem y_nd : NdOk yN := small_ok (by decide) (by decide) (by decide)
theorem s_ok : ClOk sN := ⟨⟨by decide, by decide, by decide, by decide⟩, by simp [sN, IsB]⟩
theorem e0_nd : NdOk e0 := small_ok (by decide) (by decide) (by decide)
theorem replB : IsB (List.replicate 256 0) := by intro x hx; rw [List.eq_of_mem_replicate hx]; omega

set_option maxHeartbeats 32000000 in
theorem live19_any (w : World) (R : Ending → World → Prop) (hR : R = fun e w' => e = .returned (.bool true) ∧ Below w.heap.size w w') :
    Calls Try.prog 40 #[] w R := by
  have HR := Lib.hid hR; clear hR
  go_enter Try.func40, Try.ntmps40
  go_wp2_with fail
  refine (nEncode_any _ e0 none 0 256 (by unfold i64b; omega) (by decide) e0_nd (by decide) (.inl rfl) _ rfl).mono ?_
  rintro e w1 ⟨hb1, ⟨hno, _⟩ | ⟨_, hno, _⟩ | ⟨_, _, A1, m1, c1, L1, rfl, hip, hown⟩⟩
  · exact absurd e0_ok hno
  · exact absurd e0_fit hno
  obtain ⟨hL, hT⟩ := e0_page hip
  have hm1 : L1.length = m1 := hown.len
  rw [hL] at hm1
  subst hm1
  have HO1 := Lib.hid hown
  have HL := Lib.hid hL
  have HT := Lib.hid hT
  have hc1 := hown.cap
  clear hip hown hL hT
  obtain ⟨w2, hw2⟩ : ∃ W, W = ((w1.alloc (.cells #[.int .i64 5, .int .i64 1, .int .i64 0, .slice none 0 0, .int .i64 0] 55)).alloc (.cells #[.int .i64 0, .slice none 0 0, .int .i64 0] 69)).setCells (w1.heap.size + 1) 0 (ndC xN (some ⟨w1.heap.size, 0, none⟩) 1) := ⟨_, rfl⟩
  have htw2 : ((w1.alloc (.cells #[.int .i64 5, .int .i64 1, .int .i64 0, .slice none 0 0, .int .i64 0] 55)).alloc (.cells #[.int .i64 0, .slice none 0 0, .int .i64 0] 69)).there (w1.heap.size + 1) 0 3 := by
    have := there_new3 (w1.alloc (.cells #[.int .i64 5, .int .i64 1, .int .i64 0, .slice none 0 0, .int .i64 0] 55)) (.int .i64 0) (.slice none 0 0) (.int .i64 0) 69
    simpa using this
  obtain ⟨hnw2, hrw2, hbw2, hlw2⟩ := lay_node xN #[.int .i64 5, .int .i64 1, .int .i64 0, .slice none 0 0, .int .i64 0] (fun W => cv1 W 5 1 0 0) 1 hw2
  have HNw2 := Lib.hid hnw2
  have HRw2 := Lib.hid hrw2
  have HHw2 := Lib.hid hw2
  have HTw2 := Lib.hid htw2
  clear hnw2 hrw2 hw2 htw2
  go_upto_region 2 with fail
  iterate 13 go_step
  refine wp_store_nd rfl _ _ rfl (w1.heap.size + 1) xN (some ⟨w1.heap.size, 0, none⟩) 1 rfl rfl HTw2.out ?_
  rw [← HHw2.out]
  clear HHw2 HTw2
  obtain ⟨w3, hw3⟩ : ∃ W, W = ((w2.alloc (.cells #[.int .i64 12, .int .i64 3, .int .i64 0, .slice none 0 0, .int .i64 0] 55)).alloc (.cells #[.int .i64 0, .slice none 0 0, .int .i64 0] 69)).setCells (w2.heap.size + 1) 0 (ndC yN (some ⟨w2.heap.size, 0, none⟩) 1) := ⟨_, rfl⟩
  have htw3 : ((w2.alloc (.cells #[.int .i64 12, .int .i64 3, .int .i64 0, .slice none 0 0, .int .i64 0] 55)).alloc (.cells #[.int .i64 0, .slice none 0 0, .int .i64 0] 69)).there (w2.heap.size + 1) 0 3 := by
    have := there_new3 (w2.alloc (.cells #[.int .i64 12, .int .i64 3, .int .i64 0, .slice none 0 0, .int .i64 0] 55)) (.int .i64 0) (.slice none 0 0) (.int .i64 0) 69
    simpa using this
  obtain ⟨hnw3, hrw3, hbw3, hlw3⟩ := lay_node yN #[.int .i64 12, .int .i64 3, .int .i64 0, .slice none 0 0, .int .i64 0] (fun W => cv1 W 12 3 0 0) 1 hw3
  have HNw3 := Lib.hid hnw3
  have HRw3 := Lib.hid hrw3
  have HHw3 := Lib.hid hw3
  have HTw3 := Lib.hid htw3
  clear hnw3 hrw3 hw3 htw3
  go_upto_region 3 with fail
  iterate 13 go_step
  refine wp_store_nd rfl _ _ rfl (w2.heap.size + 1) yN (some ⟨w2.heap.size, 0, none⟩) 1 rfl rfl HTw3.out ?_
  rw [← HHw3.out]
  clear HHw3 HTw3
  have HX3 := Lib.hid (HNw2.out.keep hbw3)
  have HXC3 := Lib.hid (HRw2.out.keep hbw3)
  have HO3 := Lib.hid ((HO1.out.keep hbw2).keep hbw3)
  have hb3 : Below w.heap.size w w3 := hb1.trans ((hbw2.trans (hbw3.mono hbw2.size)).mono hb1.size)
  clear hbw2 hbw3 HNw2 HRw2 HO1
  obtain ⟨g1, hg1⟩ : ∃ x, w1.heap.size = x := ⟨_, rfl⟩
  obtain ⟨g2, hg2⟩ : ∃ x, w2.heap.size = x := ⟨_, rfl⟩
  rw [hg1] at HX3 HXC3
  rw [hg2] at HNw3 HRw3
  simp only [hg1, hg2]
  have hzz : g1 + 1 < w3.heap.size := by rw [← hg1, ← hg2] at *; omega
  clear hlw2 hlw3 hg1 hg2 hb1
  go_upto_region 4 with fail
  go_step
  refine wp_load_nd rfl _ rfl (g1 + 1) xN (some ⟨g1, 0, none⟩) 1 rfl HX3.out ?_
  iterate 3 go_step
  refine wp_load_nd rfl _ rfl (g2 + 1) yN (some ⟨g2, 0, none⟩) 1 rfl HNw3.out ?_
  go_wp2_with fail
  refine (njoin_any _ xN (some ⟨g1, 0, none⟩) 1 sN none 0 yN (some ⟨g2, 0, none⟩) 1 (by decide) (by decide) (by decide) x_nd y_nd s_ok (by decide) (by unfold maxLen; omega) HXC3.out (.inl rfl) HRw3.out _ rfl).mono ?_
  rintro e w4 ⟨hb4, ⟨hno, _⟩ | ⟨_, A4, c4, rfl, hown4⟩⟩
  · exact absurd xy_ok hno
  rw [xy_eq] at hown4 ⊢
  have HX4 := Lib.hid (HX3.out.keep hb4)
  have HO4 := Lib.hid (HO3.out.keep hb4)
  have HXC4 := Lib.hid (HXC3.out.keep hb4)
  have hb04 : Below w.heap.size w w4 := hb3.trans (hb4.mono hb3.size)
  have HC4 := Lib.hid hown4.rd
  clear hown4 hb4 HX3 HXC3 HO3 hb3 HNw3 HRw3
  simp only []
  iterate 13 go_step
  obtain ⟨W5, hW5⟩ : ∃ W, W = w4.alloc (.cells #[.int .i64 0, .slice none 0 0, .int .i64 0] 69) := ⟨_, rfl⟩
  have HT5 := Lib.hid (show W5.there w4.heap.size 0 3 by rw [hW5]; exact there_new3 w4 _ _ _ _)
  have hb45 : Below w4.heap.size w4 W5 := by rw [hW5]; exact (Below.refl _ _).alloc (Nat.le_refl _) _
  rw [← hW5]
  clear hW5
  refine wp_store_nd rfl _ _ rfl w4.heap.size wantN A4 c4 rfl rfl HT5.out ?_
  obtain ⟨w5, hw5⟩ : ∃ W, W = W5.setCells w4.heap.size 0 (ndC wantN A4 c4) := ⟨_, rfl⟩
  have HJ5 := Lib.hid (show NdAt w5 w4.heap.size wantN A4 c4 by rw [hw5]; exact NdAt.stored HT5.out _ _ _)
  have hb5 : Below w4.heap.size w4 w5 := by rw [hw5]; exact below_setCellsR hb45 (Nat.le_refl _) _ _
  have HX5 := Lib.hid (HX4.out.keep hb5)
  have HO5 := Lib.hid (HO4.out.keep hb5)
  have HXC5 := Lib.hid (HXC4.out.keep hb5)
  have HC5 := Lib.hid (HC4.out.keep hb5)
  have hb05 : Below w.heap.size w w5 := hb04.trans (hb5.mono hb04.size)
  rw [← hw5]
  obtain ⟨g3, hg3⟩ : ∃ x, w4.heap.size = x := ⟨_, rfl⟩
  rw [hg3] at HJ5 ⊢
  clear hw5 hb45 hb5 HT5 HX4 HO4 HXC4 HC4 hb04 hg3
  obtain ⟨W6, hW6⟩ : ∃ W, W = w5.alloc (.cells (zrs 256) 5) := ⟨_, rfl⟩
  have HZ6 := Lib.hid (show OwnB W6 w5.heap.size (some ⟨w5.heap.size, 0, none⟩) 256 256 (List.replicate 256 0) by rw [hW6]; exact OwnB.zeros w5 _ 256 (Nat.le_refl _) (by unfold maxLen; omega))
  have hb6 : Below w5.heap.size w5 W6 := by rw [hW6]; exact (Below.refl _ _).alloc (Nat.le_refl _) _
  have HW6 := Lib.hid hW6
  have hmk := run_mk 256 256 (Nat.le_refl _) (by omega)
  rw [show ((256 : Nat) : Int) = 256 from rfl] at hmk
  clear hW6
  go_wp2_with fail
  rw [← HW6.out]
  clear HW6 hmk
  refine (nDecode_any _ (some ⟨w5.heap.size, 0, none⟩) 256 256 (List.replicate 256 0) List.length_replicate (Nat.le_refl _) (by unfold maxLen; omega) HZ6.out.rd replB _ rfl).mono ?_
  rintro e w7 ⟨hb7, ⟨hno, _⟩ | ⟨_, _, rfl⟩ | ⟨_, hno, _⟩⟩
  · exact absurd (by decide) hno
  rotate_left
  · exact absurd hno zeros_no
  have hb57 : Below w5.heap.size w5 w7 := hb6.trans (hb7.mono hb6.size)
  have HX7 := Lib.hid (HX5.out.keep hb57)
  have HO7 := Lib.hid (HO5.out.keep hb57)
  have HXC7 := Lib.hid (HXC5.out.keep hb57)
  have HC7 := Lib.hid (HC5.out.keep hb57)
  have HJ7 := Lib.hid (HJ5.out.keep hb57)
  have hb07 : Below w.heap.size w w7 := hb05.trans (hb57.mono hb05.size)
  clear hb57 hb7 hb6 HZ6 HX5 HO5 HXC5 HC5 HJ5 hb05
  simp only []
  iterate 13 go_step
  obtain ⟨W8, hW8⟩ : ∃ W, W = w7.alloc (.cells #[.int .i64 0, .slice none 0 0, .int .i64 0] 69) := ⟨_, rfl⟩
  have HT8 := Lib.hid (show W8.there w7.heap.size 0 3 by rw [hW8]; exact there_new3 w7 _ _ _ _)
  have hb78 : Below w7.heap.size w7 W8 := by rw [hW8]; exact (Below.refl _ _).alloc (Nat.le_refl _) _
  rw [← hW8]
  clear hW8
  refine wp_store_nd rfl _ _ rfl w7.heap.size zeroN none 0 rfl rfl HT8.out ?_
  obtain ⟨w8, hw8⟩ : ∃ W, W = W8.setCells w7.heap.size 0 (ndC zeroN none 0) := ⟨_, rfl⟩
  have hb8 : Below w7.heap.size w7 w8 := by rw [hw8]; exact below_setCellsR hb78 (Nat.le_refl _) _ _
  have HX8 := Lib.hid (HX7.out.keep hb8)
  have HO8 := Lib.hid (HO7.out.keep hb8)
  have HXC8 := Lib.hid (HXC7.out.keep hb8)
  have HC8 := Lib.hid (HC7.out.keep hb8)
  have HJ8 := Lib.hid (HJ7.out.keep hb8)
  have hb08 : Below w.heap.size w w8 := hb07.trans (hb8.mono hb07.size)
  rw [← hw8]
  clear hw8 hb8 hb78 HT8 HX7 HO7 HXC7 HC7 HJ7 hb07
  obtain ⟨w9, hw9⟩ : ∃ W, W = ((w8.alloc (.cells #[.int .i64 5, .int .i64 1, .int .i64 0, .slice none 0 0, .int .i64 0, .int .i64 9, .int .i64 2, .int .i64 0, .slice none 0 0, .int .i64 0, .int .i64 12, .int .i64 3, .int .i64 0, .slice none 0 0, .int .i64 0] 55)).alloc (.cells #[.int .i64 0, .slice none 0 0, .int .i64 0] 69)).setCells (w8.heap.size + 1) 0 (ndC wantN (some ⟨w8.heap.size, 0, none⟩) 3) := ⟨_, rfl⟩
  have htw9 : ((w8.alloc (.cells #[.int .i64 5, .int .i64 1, .int .i64 0, .slice none 0 0, .int .i64 0, .int .i64 9, .int .i64 2, .int .i64 0, .slice none 0 0, .int .i64 0, .int .i64 12, .int .i64 3, .int .i64 0, .slice none 0 0, .int .i64 0] 55)).alloc (.cells #[.int .i64 0, .slice none 0 0, .int .i64 0] 69)).there (w8.heap.size + 1) 0 3 := by
    have := there_new3 (w8.alloc (.cells #[.int .i64 5, .int .i64 1, .int .i64 0, .slice none 0 0, .int .i64 0, .int .i64 9, .int .i64 2, .int .i64 0, .slice none 0 0, .int .i64 0, .int .i64 12, .int .i64 3, .int .i64 0, .slice none 0 0, .int .i64 0] 55)) (.int .i64 0) (.slice none 0 0) (.int .i64 0) 69
    simpa using this
  obtain ⟨hnw9, hrw9, hbw9, hlw9⟩ := lay_node wantN #[.int .i64 5, .int .i64 1, .int .i64 0, .slice none 0 0, .int .i64 0, .int .i64 9, .int .i64 2, .int .i64 0, .slice none 0 0, .int .i64 0, .int .i64 12, .int .i64 3, .int .i64 0, .slice none 0 0, .int .i64 0] (fun W => ((cv1 W 5 1 0 0).app (cv1 W 9 2 0 0)).app (cv1 W 12 3 0 0)) 3 hw9
  have HNw9 := Lib.hid hnw9
  have HRw9 := Lib.hid hrw9
  have HHw9 := Lib.hid hw9
  have HTw9 := Lib.hid htw9
  clear hnw9 hrw9 hw9 htw9
  go_upto_region 6 with fail
  iterate 19 go_step
  refine wp_store_nd rfl _ _ rfl (w8.heap.size + 1) wantN (some ⟨w8.heap.size, 0, none⟩) 3 rfl rfl HTw9.out ?_
  rw [← HHw9.out]
  clear HHw9 HTw9
  have HX9 := Lib.hid (HX8.out.keep hbw9)
  have HO9 := Lib.hid (HO8.out.keep hbw9)
  have HXC9 := Lib.hid (HXC8.out.keep hbw9)
  have HC9 := Lib.hid (HC8.out.keep hbw9)
  have HJ9 := Lib.hid (HJ8.out.keep hbw9)
  have hb09 : Below w.heap.size w w9 := hb08.trans (hbw9.mono hb08.size)
  obtain ⟨g4, hg4⟩ : ∃ x, w8.heap.size = x := ⟨_, rfl⟩
  rw [hg4] at HNw9 HRw9
  simp only [hg4]
  clear hg4 hbw9 hlw9 HX8 HO8 HXC8 HC8 HJ8 hb08 hzz
  have hcut := run_cut_toG 29 5 Try.underlying29 (by intro w; kernel_rfl) A1 256 c1 8 (by omega)
  rw [show ((8 : Nat) : Int) = 8 from rfl] at hcut
  have HCD := Lib.hid (show Rd w9 (cutA A1 c1 0) (L1.take 8) by
    have := cutA_rd HO9.out.rd c1 0 8 (by rw [HL.out]; exact hc1.1)
    rwa [List.drop_zero] at this)
  obtain ⟨D1, hD1⟩ : ∃ D, cutA A1 c1 0 = D := ⟨_, rfl⟩
  rw [hD1] at hcut HCD
  clear hD1
  go_wp2_with fail
  clear hcut
  have hba : Below w9.heap.size w9 (w9.alloc (.cells #[.int .u8 1, .int .u8 0, .int .u8 0, .int .u8 0, .int .u8 0, .int .u8 0, .int .u8 0, .int .u8 0] 5)) := (Below.refl _ _).alloc (Nat.le_refl _) _
  refine (same1_any _ D1 (some ⟨w9.heap.size, 0, none⟩) 8 c1 8 8 (L1.take 8) [1, 0, 0, 0, 0, 0, 0, 0] (by rw [HT.out]; rfl) rfl (by omega) (HCD.out.keep hba) (OwnB.lit w9 _ [1, 0, 0, 0, 0, 0, 0, 0] w9.heap.size 8 rfl rfl (Nat.le_refl _) (by decide)).rd).mono ?_
  rintro e wa ⟨rfl, hb10⟩
  have hba' : Below w9.heap.size w9 wa := hba.trans (hb10.mono hba.size)
  rw [show beqL (L1.take 8) [1, 0, 0, 0, 0, 0, 0, 0] = true from by rw [HT.out]; exact beqL_self _]
  simp only []
  iterate 17 go_step
  have HX10 := Lib.hid (HX9.out.keep hba')
  have HXC10 := Lib.hid (HXC9.out.keep hba')
  have HC10 := Lib.hid (HC9.out.keep hba')
  have HW10 := Lib.hid (HRw9.out.keep hba')
  have hb010 : Below w.heap.size w wa := hb09.trans (hba'.mono hb09.size)
  refine wp_load_ndg rfl _ rfl g3 wantN A4 c4 rfl (HJ9.out.keep hba') ?_
  refine wp_load_ndg rfl _ rfl (g4 + 1) wantN (some ⟨g4, 0, none⟩) 3 rfl (HNw9.out.keep hba') ?_
  clear HJ9 HX9 HXC9 HC9 HNw9 HRw9 HCD HO9 hba hba' hb10 hb09
  go_wp2_with fail
  refine (same19_any _ wantN wantN A4 (some ⟨g4, 0, none⟩) c4 3 (by decide) (by decide) HC10.out HW10.out _ rfl).mono ?_
  rintro e wb ⟨rfl, hb11⟩
  rw [decide_eq_true (show wantN = wantN from rfl)]
  have hb011 : Below w.heap.size w wb := hb010.trans (hb11.mono hb010.size)
  simp only []
  iterate 17 go_step
  refine wp_load_ndg rfl _ rfl (g1 + 1) xN (some ⟨g1, 0, none⟩) 1 rfl (HX10.out.keep hb11) ?_
  go_wp2_with fail
  refine (nFits_any _ xN (some ⟨g1, 0, none⟩) 1 256 (by unfold i64b; omega) (by decide) x_nd (by decide) (HXC10.out.keep hb11) _ rfl).mono ?_
  rintro e wc ⟨rfl, hb12⟩
  rw [decide_eq_true (show okN xN 256 ∧ fitN xN 256 from ⟨x_ok, x_fit⟩)]
  have hb012 : Below w.heap.size w wc := hb011.trans (hb12.mono hb011.size)
  clear hb12 hb11 HX10 HXC10
  go_wp2_with fail
  rw [HR.out]
  exact ⟨rfl, hb012⟩
end
section
open Go.RowKit
set_option maxRecDepth 100000
set_option linter.unusedVariables false
set_option linter.unusedSimpArgs false
set_option linter.unnecessarySimpa false
def jm (a : Nd) (s : Cl) (b : Nd) : Nd := if joinOk a s b then joinM a s b else zeroN
def jz (a : Nd) (s : Cl) (b : Nd) : Int := if joinOk a s b then 0 else 1
theorem JoinN.res {w w' : World} {a : Nd} {s : Cl} {b : Nd} {e : Ending} (h : JoinN w a s b e w') : Below w.heap.size w w' ∧ ∃ A c, e = .returned (.tuple #[(jm a s b).val A c, .int .i64 (jz a s b)]) ∧ RdCl w' A (jm a s b).cs := by
  refine ⟨h.1, ?_⟩
  unfold jm jz
  rcases h.2 with ⟨hno, rfl⟩ | ⟨hok, A, c, rfl, hown⟩
  · rw [if_neg hno, if_neg hno]
    exact ⟨none, 0, rfl, .inl rfl⟩
  · rw [if_pos hok, if_pos hok]
    exact ⟨A, c, rfl, hown.rd⟩
theorem jm_len {a : Nd} {s : Cl} {b : Nd} (ha : fewN a) (hb : fewN b) : (jm a s b).cs.length ≤ 801 := by
  unfold jm
  split
  · have h1 := ha.1
    have h2 := hb.1
    show (a.cs ++ midJ a s ++ b.cs).length ≤ 801
    have h3 : (midJ a s).length ≤ 1 := by unfold midJ; split <;> simp
    rw [List.length_append, List.length_append]
    omega
  · show (0 : Nat) ≤ 801; omega
/-- The arguments, boxed. -/
structure Jb (w W : World) (a : Nd) (A : Option Addr) (ca : Nat) (s : Cl) (S : Option Addr) (d : Nat) (b : Nd) (B : Option Addr) (cb : Nat) : Prop where
  x : NdAt W w.heap.size a A ca
  sg : W.rangeAt (w.heap.size + 1) 0 (clC s S s.loc.length d)
  y : NdAt W (w.heap.size + 2) b B cb
  xc : RdCl W A a.cs
  sr : Rd W S s.loc
  yc : RdCl W B b.cs
  bel : Below w.heap.size w W
  sz : w.heap.size + 3 ≤ W.heap.size
section
variable {w W W' : World} {a : Nd} {A : Option Addr} {ca : Nat} {s : Cl} {S : Option Addr} {d : Nat} {b : Nd} {B : Option Addr} {cb : Nat}
theorem Jb.keep (h : Jb w W a A ca s S d b B cb) (hb : Below W.heap.size W W') : Jb w W' a A ca s S d b B cb := by
  have hz := h.sz
  have hz2 := hb.size
  exact ⟨h.x.keep hb, rangeKept h.sg hb, h.y.keep hb, h.xc.keep hb, h.sr.keep hb, h.yc.keep hb, h.bel.trans (hb.mono (by omega)), by omega⟩
theorem Jb.made (hA : RdCl w A a.cs) (hS : Rd w S s.loc) (hB : RdCl w B b.cs) {t t1 : TypeId}
    (hW : W = ((w.alloc (.cells #[.int .i64 a.kind, .slice A a.cs.length ca, .int .i64 a.right] t)).alloc (.cells #[.int .i64 s.key, .int .i64 s.child, .int .i64 s.total, .slice S s.loc.length d, .int .i64 s.spill] t1)).alloc (.cells #[.int .i64 b.kind, .slice B b.cs.length cb, .int .i64 b.right] t)) : Jb w W a A ca s S d b B cb := by
  subst hW
  obtain ⟨W1, h1⟩ : ∃ W, W = w.alloc (.cells #[.int .i64 a.kind, .slice A a.cs.length ca, .int .i64 a.right] t) := ⟨_, rfl⟩
  rw [← h1]
  have e1 : W1.heap.size = w.heap.size + 1 := by rw [h1]; simp
  have b1 : Below w.heap.size w W1 := by rw [h1]; exact (Below.refl _ _).alloc (Nat.le_refl _) _
  have x1 : NdAt W1 w.heap.size a A ca := by rw [h1]; exact NdAt.made w a A ca _
  obtain ⟨W2, h2⟩ : ∃ W, W = W1.alloc (.cells #[.int .i64 s.key, .int .i64 s.child, .int .i64 s.total, .slice S s.loc.length d, .int .i64 s.spill] t1) := ⟨_, rfl⟩
  rw [← h2]
  have e2 : W2.heap.size = w.heap.size + 2 := by rw [h2]; simp [e1]
  have b2 : Below W1.heap.size W1 W2 := by rw [h2]; exact (Below.refl _ _).alloc (Nat.le_refl _) _
  have s2 : W2.rangeAt (w.heap.size + 1) 0 (clC s S s.loc.length d) := fun j u hu => by
    rw [h2, Nat.zero_add, ← e1, heap_cell (heap_alloc_new W1 _)]
    simpa [clC] using hu
  obtain ⟨W3, h3⟩ : ∃ W, W = W2.alloc (.cells #[.int .i64 b.kind, .slice B b.cs.length cb, .int .i64 b.right] t) := ⟨_, rfl⟩
  rw [← h3]
  have e3 : W3.heap.size = w.heap.size + 3 := by rw [h3]; simp [e2]
  have b3 : Below W2.heap.size W2 W3 := by rw [h3]; exact (Below.refl _ _).alloc (Nat.le_refl _) _
  have y3 : NdAt W3 (w.heap.size + 2) b B cb := by rw [h3, ← e2]; exact NdAt.made W2 b B cb _
  have b13 : Below W1.heap.size W1 W3 := b2.trans (b3.mono (by omega))
  have b03 : Below w.heap.size w W3 := b1.trans (b13.mono (by omega))
  exact ⟨x1.keep b13, rangeKept s2 b3, y3, hA.keep b03, hS.keep b03, hB.keep b03, b03, by omega⟩
end
set_option maxHeartbeats 64000000 in
theorem nodeJoins_walk (w : World) (a : Nd) (A : Option Addr) (ca : Nat) (s : Cl) (S : Option Addr) (n d : Nat) (b : Nd) (B : Option Addr) (cb : Nat)
    (oa : NdOk a) (la : a.cs.length ≤ ca) (ma : ca ≤ maxLen) (hA : RdCl w A a.cs) (os : s.ok) (hn : s.loc.length = n) (hd : n ≤ d) (hdm : d ≤ maxLen) (hS : Rd w S s.loc) (bs : IsB s.loc)
    (ob : NdOk b) (lb : b.cs.length ≤ cb) (mb : cb ≤ maxLen) (hB : RdCl w B b.cs) :
    Calls Try.prog 13 #[a.val A ca, s.val S n d, b.val B cb] w fun e w' => e = .returned (.bool true) ∧ Below w.heap.size w w' := by
  subst hn
  have HAO := Lib.hid oa
  have HBO := Lib.hid ob
  have HSO := Lib.hid (show ClOk s from ⟨os, bs⟩)
  obtain ⟨W0, hW0⟩ : ∃ W, W = ((w.alloc (.cells #[.int .i64 a.kind, .slice A a.cs.length ca, .int .i64 a.right] 69)).alloc (.cells #[.int .i64 s.key, .int .i64 s.child, .int .i64 s.total, .slice S s.loc.length d, .int .i64 s.spill] 55)).alloc (.cells #[.int .i64 b.kind, .slice B b.cs.length cb, .int .i64 b.right] 69) := ⟨_, rfl⟩
  have HJ0 := Lib.hid (Jb.made hA hS hB hW0)
  have HW := Lib.hid hW0
  clear hW0 oa ob os hA hS hB bs
  unfold Nd.val Cl.val
  go_enter Try.func13, Try.ntmps13
  go_upto_region 1 with fail
  rw [← HW.out]
  clear HW
  go_step
  refine wp_load_nd rfl _ rfl w.heap.size a A ca rfl HJ0.out.x ?_
  go_wp2_with fail
  refine (few_any _ a A ca la ma HJ0.out.xc _ rfl).mono ?_
  rintro e w1 ⟨rfl, hb1⟩
  have HJ1 := Lib.hid (HJ0.out.keep hb1)
  clear hb1 HJ0
  by_cases hfa : fewN a
  case neg =>
    rw [decide_eq_false hfa]
    clear hfa
    go_wp2_with fail
    refine (live19_any _ _ rfl).mono ?_
    rintro e w2 ⟨rfl, hb2⟩
    have hbe := HJ1.out.bel.trans (hb2.mono HJ1.out.bel.size)
    go_wp2_with fail
    go_ret
    exact ⟨rfl, hbe⟩
  rw [decide_eq_true hfa]
  simp only []
  iterate 7 go_step
  refine wp_load_ndg rfl _ rfl (w.heap.size + 2) b B cb rfl HJ1.out.y ?_
  go_wp2_with fail
  refine (few_any _ b B cb lb mb HJ1.out.yc _ rfl).mono ?_
  rintro e w2 ⟨rfl, hb2⟩
  have HJ2 := Lib.hid (HJ1.out.keep hb2)
  clear hb2 HJ1
  by_cases hfb : fewN b
  case neg =>
    rw [decide_eq_false hfb]
    clear hfb
    go_wp2_with fail
    refine (live19_any _ _ rfl).mono ?_
    rintro e w3 ⟨rfl, hb3⟩
    have hbe := HJ2.out.bel.trans (hb3.mono HJ2.out.bel.size)
    go_wp2_with fail
    go_ret
    exact ⟨rfl, hbe⟩
  rw [decide_eq_true hfb]
  have HFA := Lib.hid hfa
  have HFB := Lib.hid hfb
  have c3 := HJ2.out.sg 3 _ rfl
  rw [Nat.zero_add] at c3
  clear hfa hfb
  by_cases hsl : s.loc.length ≤ 16384
  case neg =>
    have hsl' : (16384 : Int) < (s.loc.length : Int) := by omega
    go_wp2_with fail
    refine (live19_any _ _ rfl).mono ?_
    rintro e w3 ⟨rfl, hb3⟩
    have hbe := HJ2.out.bel.trans (hb3.mono HJ2.out.bel.size)
    go_wp2_with fail
    go_ret
    exact ⟨rfl, hbe⟩
  have hsl' : ¬ (16384 : Int) < (s.loc.length : Int) := by omega
  go_upto_region 3 with fail
  clear c3 hsl'
  go_step
  refine wp_load_nd rfl _ rfl w.heap.size a A ca rfl HJ2.out.x ?_
  refine wp_load_clo rfl _ rfl (w.heap.size + 1) 0 s S s.loc.length d rfl HJ2.out.sg ?_
  refine wp_load_nd rfl _ rfl (w.heap.size + 2) b B cb rfl HJ2.out.y ?_
  go_wp2_with fail
  refine (njoin_any _ a A ca s S d b B cb HFA.out HFB.out hsl HAO.out HBO.out HSO.out hd hdm HJ2.out.xc HJ2.out.sr HJ2.out.yc _ rfl).mono ?_
  intro e w3 hj
  obtain ⟨hb3, A3, c3, rfl, hr3⟩ := hj.res
  clear hj
  have HJ3 := Lib.hid (HJ2.out.keep hb3)
  have HLEN := Lib.hid (jm_len (s := s) HFA.out HFB.out)
  obtain ⟨m, hm⟩ : ∃ m, jm a s b = m := ⟨_, rfl⟩
  obtain ⟨z, hz⟩ : ∃ z, jz a s b = z := ⟨_, rfl⟩
  rw [hm] at hr3 HLEN ⊢
  rw [hz]
  have HM := Lib.hid hm
  have HZ := Lib.hid hz
  have HR3 := Lib.hid hr3
  clear hm hz hr3 hb3 HJ2
  simp only []
  iterate 13 go_step
  obtain ⟨W4, hW4⟩ : ∃ W, W = w3.alloc (.cells #[.int .i64 0, .slice none 0 0, .int .i64 0] 69) := ⟨_, rfl⟩
  have HT4 := Lib.hid (show W4.there w3.heap.size 0 3 by rw [hW4]; exact there_new3 w3 _ _ _ _)
  have hb34 : Below w3.heap.size w3 W4 := by rw [hW4]; exact (Below.refl _ _).alloc (Nat.le_refl _) _
  rw [← hW4]
  clear hW4
  refine wp_store_nd rfl _ _ rfl w3.heap.size m A3 c3 rfl rfl HT4.out ?_
  obtain ⟨w4, hw4⟩ : ∃ W, W = W4.setCells w3.heap.size 0 (ndC m A3 c3) := ⟨_, rfl⟩
  have HM4 := Lib.hid (show NdAt w4 w3.heap.size m A3 c3 by rw [hw4]; exact NdAt.stored HT4.out _ _ _)
  have hb4 : Below w3.heap.size w3 w4 := by rw [hw4]; exact below_setCellsR hb34 (Nat.le_refl _) _ _
  have HJ4 := Lib.hid (HJ3.out.keep hb4)
  have HR4 := Lib.hid (HR3.out.keep hb4)
  rw [← hw4]
  obtain ⟨g1, hg1⟩ : ∃ x, w3.heap.size = x := ⟨_, rfl⟩
  rw [hg1] at HM4 ⊢
  clear hw4 hb34 hb4 HT4 HJ3 HR3 hg1
  go_upto_region 4 with fail
  go_step
  refine wp_load_nd rfl _ rfl w.heap.size a A ca rfl HJ4.out.x ?_
  refine wp_load_clo rfl _ rfl (w.heap.size + 1) 0 s S s.loc.length d rfl HJ4.out.sg ?_
  refine wp_load_nd rfl _ rfl (w.heap.size + 2) b B cb rfl HJ4.out.y ?_
  go_wp2_with fail
  refine (rjoin_any _ a A ca s S d b B cb HFA.out HFB.out hsl HAO.out HBO.out HSO.out hd hdm HJ4.out.xc HJ4.out.sr HJ4.out.yc _ rfl).mono ?_
  intro e w5 hj
  obtain ⟨hb5, A5, c5, rfl, hr5⟩ := hj.res
  rw [HM.out] at hr5 ⊢
  rw [HZ.out]
  clear hj
  have HJ5 := Lib.hid (HJ4.out.keep hb5)
  have HM5 := Lib.hid (HM4.out.keep hb5)
  have HR5 := Lib.hid (HR4.out.keep hb5)
  have HQ5 := Lib.hid hr5
  clear hr5 hb5 HJ4 HM4 HR4
  simp only []
  iterate 13 go_step
  obtain ⟨W6, hW6⟩ : ∃ W, W = w5.alloc (.cells #[.int .i64 0, .slice none 0 0, .int .i64 0] 69) := ⟨_, rfl⟩
  have HT6 := Lib.hid (show W6.there w5.heap.size 0 3 by rw [hW6]; exact there_new3 w5 _ _ _ _)
  have hb56 : Below w5.heap.size w5 W6 := by rw [hW6]; exact (Below.refl _ _).alloc (Nat.le_refl _) _
  rw [← hW6]
  clear hW6
  refine wp_store_nd rfl _ _ rfl w5.heap.size m A5 c5 rfl rfl HT6.out ?_
  obtain ⟨w6, hw6⟩ : ∃ W, W = W6.setCells w5.heap.size 0 (ndC m A5 c5) := ⟨_, rfl⟩
  have HQM6 := Lib.hid (show NdAt w6 w5.heap.size m A5 c5 by rw [hw6]; exact NdAt.stored HT6.out _ _ _)
  have hb6 : Below w5.heap.size w5 w6 := by rw [hw6]; exact below_setCellsR hb56 (Nat.le_refl _) _ _
  have HJ6 := Lib.hid (HJ5.out.keep hb6)
  have HR6 := Lib.hid (HR5.out.keep hb6)
  have HM6 := Lib.hid (HM5.out.keep hb6)
  have HQ6 := Lib.hid (HQ5.out.keep hb6)
  rw [← hw6]
  obtain ⟨g2, hg2⟩ : ∃ x, w5.heap.size = x := ⟨_, rfl⟩
  rw [hg2] at HQM6 ⊢
  clear hw6 hb56 hb6 HT6 HJ5 HR5 HM5 HQ5 hg2
  go_wp2_with fail
  refine (live19_any _ _ rfl).mono ?_
  rintro e w7 ⟨rfl, hb7⟩
  have HJ7 := Lib.hid (HJ6.out.keep hb7)
  simp only []
  iterate 4 go_step
  refine wp_load_ndg rfl _ rfl g1 m A3 c3 rfl (HM6.out.keep hb7) ?_
  refine wp_load_ndg rfl _ rfl g2 m A5 c5 rfl (HQM6.out.keep hb7) ?_
  go_wp2_with fail
  refine (same19_any _ m m A3 A5 c3 c5 (by have := HLEN.out; omega) (by have := HLEN.out; omega) (HR6.out.keep hb7) (HQ6.out.keep hb7) _ rfl).mono ?_
  rintro e w8 ⟨rfl, hb8⟩
  rw [decide_eq_true (show m = m from rfl)]
  have hbe : Below w.heap.size w w8 := HJ7.out.bel.trans (hb8.mono HJ7.out.bel.size)
  have hqz : (z == z) = true := by simp
  go_wp2_with fail
  go_ret
  exact ⟨rfl, hbe⟩
end
section
open Go.RowKit
set_option maxRecDepth 100000
set_option linter.unusedVariables false
set_option linter.unusedSimpArgs false
set_option linter.unnecessarySimpa false
theorem beI_fx4n {v : Int} (h : 0 ≤ v ∧ v ≤ 4294967295) : beI (fxL v 4) = v := by
  have e : fxL v 4 = [v / 16777216 % 256, v / 65536 % 256, v / 256 % 256, v % 256] := by simp [fxL]
  rw [e]
  simp only [beI, List.foldl]
  omega
theorem enc_dec {n : Nd} {s : Nat} {L : List Int} (hs : isSz (s : Int)) (hm : mayN n) (hok : NdOk n) (hf : fitN n (s : Int)) (hip : IsP L (nodeM n s)) : nodeOf L = n ∧ decOk L := by
  have hB : ∀ c ∈ n.cs, IsB c.loc := fun c hc => (hok.2.2 c hc).2
  have p := put_full hs hB hf
  have hg := nodeM_good hs hm hB hf
  have hh : (nodeM n s).h = 8 := nodeF_len n
  have hM : mdlOf L 8 = nodeM n s := by
    have := IsP.mdl hg hip
    rwa [hh] at this
  have hlen : L.length = s := by rw [hip.len]; exact p.n
  have hC : (nodeM n s).C = fullP n := p.C
  have hk : kOf L 8 = n.cs.length := by
    rw [← mdlOf_k, hM]
    unfold Mdl.k
    rw [hC]
    simp [fullP]
  have hF : ∀ i, i < 8 → bt L i = bt (nodeF n) i := fun i hi => hip.front i (by rw [hh]; exact hi)
  have h0 : bt L 0 = n.kind := by rw [hF 0 (by omega)]; rfl
  have hc : ∀ i, i < n.cs.length → cOf L 8 i = cellB n.kind (cl_ n.cs i) := fun i hi => by
    have := mdlOf_cl (L := L) (h := 8) (j := i) (by rw [hk]; exact hi)
    rw [← this, hM]
    unfold Mdl.cl
    rw [hC]
    have hmem : cl_ n.cs i ∈ n.cs := by rw [cl_lt hi]; exact List.getElem_mem hi
    have : (fullP n).getD i [] = encC n.kind (cl_ n.cs i) := by simp [fullP, cl_lt hi, hi]
    rw [this]
    unfold encC
    exact if_pos (hm.2 _ hmem)
  have hd : ∀ i, i < n.cs.length → decC (bt L 0) (cOf L 8 i) = (cl_ n.cs i, 0) := fun i hi => by
    have hmem : cl_ n.cs i ∈ n.cs := by rw [cl_lt hi]; exact List.getElem_mem hi
    rw [h0, hc i hi]
    exact decC_put _ _ (hok.2.2 _ hmem).1 (hm.2 _ hmem)
  have hr : rtJ L 4 = n.right := by
    have hr01 : 0 ≤ n.right ∧ n.right ≤ 4294967295 := by
      have h1 := hm.1
      by_cases hc : hasC n.kind
      · have := h1.2.1 hc; unfold isP at this; omega
      · rw [h1.2.2 hc]; omega
    have e : (L.drop 4).take 4 = fxL n.right 4 := by
      have hl8 : 8 ≤ L.length := by rw [hlen]; unfold isSz at hs; omega
      apply List.ext_getElem
      · rw [List.length_take, List.length_drop, fxL_length]; omega
      · intro i h1 h2
        have hi : i < 4 := by rw [fxL_length] at h2; exact h2
        have := hF (4 + i) (by omega)
        have e1 : bt L (4 + i) = ((L.drop 4).take 4)[i] := by simp [bt, show 4 + i < L.length by omega]
        have e2 : bt (nodeF n) (4 + i) = (fxL n.right 4)[i] := by
          have : nodeF n = [n.kind, 0, 0, 0] ++ fxL n.right 4 := rfl
          rw [this]
          simp only [bt, List.getD_eq_getElem?_getD]
          rw [List.getElem?_append_right (by simp), show 4 + i - [n.kind, 0, 0, 0].length = i by simp, List.getElem?_eq_getElem h2]
          rfl
        exact e1.symm.trans (this.trans e2)
    unfold rtJ
    rw [e]
    exact beI_fx4n hr01
  have hcs : ndCells L (kOf L 8) = n.cs := by
    unfold ndCells
    rw [hk]
    apply List.ext_getElem
    · simp
    · intro i h1 h2
      rw [List.getElem_map, List.getElem_range, hd i h2, cl_lt h2]
  have hn : nodeOf L = n := by
    unfold nodeOf
    rw [h0, hr, hcs]
  refine ⟨hn, ⟨⟨?_, ?_⟩, fun i hi => ?_⟩, ?_, ?_, ?_⟩
  · rw [hM]; exact hg
  · rw [hM]; exact hip
  · rw [hd i (by rw [← hk]; exact hi)]
  · rw [hn, hlen]; exact ⟨hs, hm⟩
  · rw [hn, hlen]; exact hf
  · rw [hn, hlen]; exact hip
end
section
open Go.RowKit
set_option maxRecDepth 100000
set_option linter.unusedVariables false
set_option linter.unusedSimpArgs false
set_option linter.unnecessarySimpa false
def ez (n : Nd) (s : Int) : Int := if okN n s then 5 else 1
theorem ez_ne (n : Nd) (s : Int) : ez n s ≠ 0 := by unfold ez; split <;> decide
theorem EncN.no {w w' : World} {n : Nd} {s : Int} {e : Ending} (h : EncN w n s e w') (hno : ¬ (okN n s ∧ fitN n s)) : Below w.heap.size w w' ∧ e = .returned (.tuple #[.slice none 0 0, .int .i64 (ez n s)]) := by
  refine ⟨h.1, ?_⟩
  unfold ez
  rcases h.2 with ⟨h1, rfl⟩ | ⟨h1, _, rfl⟩ | ⟨h1, h2, _⟩
  · rw [if_neg h1]
  · rw [if_pos h1]
  · exact absurd ⟨h1, h2⟩ hno
theorem EncN.yes {w w' : World} {n : Nd} {s : Int} {e : Ending} (h : EncN w n s e w') (hy : okN n s ∧ fitN n s) : Below w.heap.size w w' ∧ ∃ A m c L, e = .returned (.tuple #[.slice A m c, .int .i64 0]) ∧ IsP L (nodeM n s.toNat) ∧ OwnB w' w.heap.size A m c L := by
  refine ⟨h.1, ?_⟩
  rcases h.2 with ⟨h1, rfl⟩ | ⟨_, h1, rfl⟩ | ⟨_, _, h3⟩
  · exact absurd hy.1 h1
  · exact absurd hy.2 h1
  · exact h3

set_option maxHeartbeats 64000000 in
theorem nodeWrites_walk (w : World) (n : Nd) (A : Option Addr) (c : Nat) (s : Int) (ok : NdOk n) (hl : n.cs.length ≤ c) (hm : c ≤ maxLen) (hA : RdCl w A n.cs) (hs : -9223372036854775808 ≤ s ∧ s ≤ 9223372036854775807) :
    Calls Try.prog 11 #[n.val A c, .int .i64 s] w fun e w' => e = .returned (.bool true) ∧ Below w.heap.size w w' := by
  have HOK := Lib.hid ok
  obtain ⟨W0, hW0⟩ : ∃ W, W = w.alloc (.cells #[.int .i64 n.kind, .slice A n.cs.length c, .int .i64 n.right] 69) := ⟨_, rfl⟩
  have HBX := Lib.hid (Bx.of hW0 hA)
  have HW := Lib.hid hW0
  clear hW0 ok hA
  have hB0 := HBX.out.bel
  have hs0 := HBX.out.sz
  unfold Nd.val
  go_enter Try.func11, Try.ntmps11
  go_upto_region 1 with fail
  rw [← HW.out]
  clear HW
  go_step
  refine wp_load_nd rfl _ rfl w.heap.size n A c rfl HBX.out.at_ ?_
  go_wp2_with fail
  refine (few_any _ n A c hl hm HBX.out.cs _ rfl).mono ?_
  rintro e w1 ⟨rfl, hb1⟩
  by_cases hfw : fewN n
  case neg =>
    rw [decide_eq_false hfw]
    clear hfw
    go_wp2_with fail
    refine (live19_any _ _ rfl).mono ?_
    rintro e w2 ⟨rfl, hb2⟩
    have hb02 : Below W0.heap.size W0 w2 := hb1.trans (hb2.mono hb1.size)
    have hbe := hB0.trans (hb02.mono hs0)
    go_wp2_with fail
    go_ret
    exact ⟨rfl, hbe⟩
  rw [decide_eq_true hfw]
  have HFW := Lib.hid hfw
  clear hfw
  go_upto_region 3 with fail
  go_step
  refine wp_load_nd rfl _ rfl w.heap.size n A c rfl (HBX.out.at_.keep hb1) ?_
  go_wp2_with fail
  refine (nEncode_any _ n A c s hs (by have := HFW.out.1; omega) HOK.out HFW.out.2 (HBX.out.cs.keep hb1) _ rfl).mono ?_
  intro e w2 henc
  by_cases hy : okN n s ∧ fitN n s
  case neg =>
    have HY := Lib.hid hy
    obtain ⟨hb2, rfl⟩ := henc.no hy
    obtain ⟨z, hz⟩ : ∃ z, ez n s = z := ⟨_, rfl⟩
    have hzn : z ≠ 0 := by rw [← hz]; exact ez_ne n s
    rw [hz]
    have HZ := Lib.hid hz
    have hb02 : Below W0.heap.size W0 w2 := hb1.trans (hb2.mono hb1.size)
    clear henc hy hz hb2 hb1
    go_upto_region 4 with fail
    go_step
    refine wp_load_nd rfl _ rfl w.heap.size n A c rfl (HBX.out.at_.keep hb02) ?_
    go_wp2_with fail
    refine (rEncode_any _ n A c s hs (by have := HFW.out.1; omega) HOK.out HFW.out.2 (HBX.out.cs.keep hb02) _ rfl).mono ?_
    intro e w3 henc
    obtain ⟨hb3, rfl⟩ := henc.no HY.out
    rw [HZ.out]
    have hb03 : Below W0.heap.size W0 w3 := hb02.trans (hb3.mono hb02.size)
    clear henc hb3 hb02
    go_wp2_with fail
    refine (same1_any _ none none 0 0 0 0 [] [] rfl rfl (by omega) (.inl rfl) (.inl rfl)).mono ?_
    rintro e w4 ⟨rfl, hb4⟩
    rw [show beqL [] [] = true from beqL_self _]
    have hb04 : Below W0.heap.size W0 w4 := hb03.trans (hb4.mono hb03.size)
    have q1 : (z != z) = false := by simp
    have q2 : (z == 0) = false := by simp [hzn]
    have q3 : (z != 0) = true := by simp [hzn]
    have HZN := Lib.hid hzn
    clear hzn hb4 hb03
    simp only []
    iterate 19 go_step
    refine wp_load_ndg rfl _ rfl w.heap.size n A c rfl (HBX.out.at_.keep hb04) ?_
    go_wp2_with fail
    refine (nFits_any _ n A c s hs (by have := HFW.out.1; omega) HOK.out HFW.out.2 (HBX.out.cs.keep hb04) _ rfl).mono ?_
    rintro e w5 ⟨rfl, hb5⟩
    rw [decide_eq_false HY.out]
    have hb05 : Below W0.heap.size W0 w5 := hb04.trans (hb5.mono hb04.size)
    go_wp2_with fail
    refine (live19_any _ _ rfl).mono ?_
    rintro e w6 ⟨rfl, hb6⟩
    have hbe := hB0.trans ((hb05.trans (hb6.mono hb05.size)).mono hs0)
    go_wp2_with fail
    go_ret
    exact ⟨rfl, hbe⟩
  have HY := Lib.hid hy
  obtain ⟨N, hN⟩ : ∃ N : Nat, s = N := ⟨s.toNat, by have := hy.1.1; unfold isSz at this; omega⟩
  subst hN
  obtain ⟨hb2, A2, m2, c2, L, rfl, hip, hown⟩ := henc.yes hy
  rw [Int.toNat_natCast] at hip
  have HIP := Lib.hid hip
  have HLN := Lib.hid (show L.length = N by rw [hip.len]; exact (put_full hy.1.1 (fun c hc => (HOK.out.2.2 c hc).2) hy.2).n)
  have HOW2 := Lib.hid hown
  have hb02 : Below W0.heap.size W0 w2 := hb1.trans (hb2.mono hb1.size)
  clear henc hy hb2 hb1 hip hown
  go_upto_region 4 with fail
  go_step
  refine wp_load_nd rfl _ rfl w.heap.size n A c rfl (HBX.out.at_.keep hb02) ?_
  go_wp2_with fail
  refine (rEncode_any _ n A c (N : Int) hs (by have := HFW.out.1; omega) HOK.out HFW.out.2 (HBX.out.cs.keep hb02) _ rfl).mono ?_
  intro e w3 henc
  obtain ⟨hb3, A3, m3, c3, L', rfl, hip', hown'⟩ := henc.yes HY.out
  rw [Int.toNat_natCast] at hip'
  have hLL : L' = L := IsP.eq (nodeM_good HY.out.1.1 HY.out.1.2 (fun c hc => (HOK.out.2.2 c hc).2) HY.out.2) hip' HIP.out
  subst hLL
  have HOW3 := Lib.hid hown'
  have HOW3' := Lib.hid (HOW2.out.keep hb3)
  have hb03 : Below W0.heap.size W0 w3 := hb02.trans (hb3.mono hb02.size)
  have HM2 := Lib.hid HOW2.out.len
  have HM3 := Lib.hid hown'.len
  have hmN : m2 ≤ 4096 := by have h1 := HM2.out; have h2 := HLN.out; have h3 := HY.out.1.1; unfold isSz at h3; omega
  have hcap2 := HOW2.out.cap
  clear henc hip' hown' hb3 hb02 HOW2
  go_wp2_with fail
  refine (same1_any _ A2 A3 m2 c2 m3 c3 L' L' HM2.out HM3.out (by omega) HOW3'.out.rd HOW3.out.rd).mono ?_
  rintro e w4 ⟨rfl, hb4⟩
  rw [beqL_self]
  have hb04 : Below W0.heap.size W0 w4 := hb03.trans (hb4.mono hb03.size)
  have HOW4 := Lib.hid (HOW3'.out.keep hb4)
  clear hb4 hb03 HOW3 HOW3'
  simp only []
  iterate 19 go_step
  refine wp_load_ndg rfl _ rfl w.heap.size n A c rfl (HBX.out.at_.keep hb04) ?_
  go_wp2_with fail
  refine (nFits_any _ n A c (N : Int) hs (by have := HFW.out.1; omega) HOK.out HFW.out.2 (HBX.out.cs.keep hb04) _ rfl).mono ?_
  rintro e w5 ⟨rfl, hb5⟩
  rw [decide_eq_true HY.out]
  have hb05 : Below W0.heap.size W0 w5 := hb04.trans (hb5.mono hb04.size)
  have HOW5 := Lib.hid (HOW4.out.keep hb5)
  obtain ⟨hnd, hdec⟩ := enc_dec HY.out.1.1 HY.out.1.2 HOK.out HY.out.2 HIP.out
  have HND := Lib.hid hnd
  have HDEC := Lib.hid hdec
  clear hb5 hb04 HOW4 hnd hdec
  go_wp2_with fail
  refine (nDecode_any _ A2 m2 c2 L' HM2.out hcap2.1 hcap2.2 HOW5.out.rd HIP.out.byts _ rfl).mono ?_
  rintro e w6 ⟨hb6, ⟨hno, _⟩ | ⟨_, hno, _⟩ | ⟨_, _, A6, c6, rfl, hown6⟩⟩
  · exact absurd (by rw [HLN.out]; exact HY.out.1.1) hno
  · exact absurd HDEC.out hno
  rw [HND.out] at hown6 ⊢
  have hb06 : Below W0.heap.size W0 w6 := hb05.trans (hb6.mono hb05.size)
  have HR6 := Lib.hid hown6.rd
  clear hown6 hb6 hb05 HOW5 HND HDEC
  simp only []
  iterate 13 go_step
  obtain ⟨W7, hW7⟩ : ∃ W, W = w6.alloc (.cells #[.int .i64 0, .slice none 0 0, .int .i64 0] 69) := ⟨_, rfl⟩
  have HT7 := Lib.hid (show W7.there w6.heap.size 0 3 by rw [hW7]; exact there_new3 w6 _ _ _ _)
  have hb67 : Below w6.heap.size w6 W7 := by rw [hW7]; exact (Below.refl _ _).alloc (Nat.le_refl _) _
  rw [← hW7]
  clear hW7
  refine wp_store_nd rfl _ _ rfl w6.heap.size n A6 c6 rfl rfl HT7.out ?_
  obtain ⟨w7, hw7⟩ : ∃ W, W = W7.setCells w6.heap.size 0 (ndC n A6 c6) := ⟨_, rfl⟩
  have HM7 := Lib.hid (show NdAt w7 w6.heap.size n A6 c6 by rw [hw7]; exact NdAt.stored HT7.out _ _ _)
  have hb7 : Below w6.heap.size w6 w7 := by rw [hw7]; exact below_setCellsR hb67 (Nat.le_refl _) _ _
  have hb07 : Below W0.heap.size W0 w7 := hb06.trans (hb7.mono hb06.size)
  have HR7 := Lib.hid (HR6.out.keep hb7)
  rw [← hw7]
  obtain ⟨g1, hg1⟩ : ∃ x, w6.heap.size = x := ⟨_, rfl⟩
  rw [hg1] at HM7 ⊢
  clear hw7 hb67 hb7 HT7 HR6 hg1 hb06
  go_wp2_with fail
  refine (live19_any _ _ rfl).mono ?_
  rintro e w8 ⟨rfl, hb8⟩
  have hb08 : Below W0.heap.size W0 w8 := hb07.trans (hb8.mono hb07.size)
  simp only []
  iterate 14 go_step
  refine wp_load_ndg rfl _ rfl g1 n A6 c6 rfl (HM7.out.keep hb8) ?_
  refine wp_load_ndg rfl _ rfl w.heap.size n A c rfl (HBX.out.at_.keep hb08) ?_
  go_wp2_with fail
  refine (same19_any _ n n A6 A c6 c (by have := HFW.out.1; omega) (by have := HFW.out.1; omega) (HR7.out.keep hb8) (HBX.out.cs.keep hb08) _ rfl).mono ?_
  rintro e w9 ⟨rfl, hb9⟩
  rw [decide_eq_true (show n = n from rfl)]
  have hbe := hB0.trans ((hb08.trans (hb9.mono hb08.size)).mono hs0)
  go_wp2_with fail
  go_ret
  exact ⟨rfl, hbe⟩
end
section
open Go.RowKit
set_option maxRecDepth 100000
set_option linter.unusedVariables false
set_option linter.unusedSimpArgs false
set_option linter.unnecessarySimpa false
theorem step_store_cl {ops : Array Oper} {op : Oper} {a : Act} {w : World} {K : Act → World → Prop} {Q : Exit → Act → World → Prop} {Z : Prop} (hgd : op.guard = none) (x y : Operand) (ho : op.op = .store 55 x y) (g : Nat) (c : Cl) (A : Option Addr) (n d : Nat)
    (hx : a.eval x = .pointer (some ⟨g, 0, none⟩)) (hy : a.eval y = c.val A n d) (ht : w.there g 0 5) (h : K (a.put op.dst undef) (w.setCells g 0 (clC c A n d))) :
    if Region.wanted op (yielded ops a.tmps) = true then Oper.wp Try.prog op a w K Q else Z := by
  have hw : Region.wanted op (yielded ops a.tmps) = true := by simp [Region.wanted, hgd]
  rw [if_pos hw]
  exact wp_store_mid 55 x y ho g 0 (clC c A n d).toArray hx hy ht size_cl (all_oneCell_toArray (by intro v hv; simp [clC] at hv; rcases hv with rfl | rfl | rfl | rfl | rfl <;> rfl)) h
def VRel (w5 : World) (nb : Nat) (L : List Int) (iv : Value) (wr : World) : Prop :=
  ∃ (j : Nat) (A : Option Addr) (c : Nat), j ≤ kOf L 8 ∧ iv = .int .i64 j ∧ NdAt wr nb ⟨bt L 0, rtJ L 4, ndCells L j⟩ A c ∧ wr.there nb 0 3 ∧ TyAt wr nb 69 ∧ OwnCl wr 0 w5.heap.size A j c (ndCells L j) ∧ (∀ t, t < j → (decC (bt L 0) (cOf L 8 t)).2 = 0) ∧ Below nb w5 wr

set_option maxHeartbeats 64000000 in
theorem rDecode19_any (w : World) (A : Option Addr) (n c : Nat) (L : List Int) (hn : L.length = n) (hnc : n ≤ c) (hcm : c ≤ maxLen) (hA : Rd w A L) (hB : IsB L) (hn8 : n ≤ 8192) (R : Ending → World → Prop) (hR : R = DecN w L) :
    Calls Try.prog 46 #[.slice A n c] w R := by
  have HR := Lib.hid hR; clear hR
  have HA := Lib.hid hA
  have HN := Lib.hid hn
  have HB := Lib.hid hB
  obtain ⟨W1, hW1⟩ : ∃ W, W = w.alloc (.cells #[.int .i64 0, .slice none 0 0, .int .i64 0] 69) := ⟨_, rfl⟩
  have hb1 : Below w.heap.size w W1 := by rw [hW1]; exact (Below.refl _ _).alloc (Nat.le_refl _) _
  have hs1 : w.heap.size < W1.heap.size := by rw [hW1]; simp
  have HT1 := Lib.hid (show W1.there w.heap.size 0 3 by rw [hW1]; exact there_new3 w _ _ _ _)
  have HTYw := Lib.hid (show TyAt W1 w.heap.size 69 by rw [hW1]; exact TyAt.new w _ _)
  have HW := Lib.hid hW1
  clear hW1 hn hA hB
  go_enter Try.func46, Try.ntmps46
  go_upto_region 1 with fail
  rw [← HW.out]
  clear HW
  go_wp2_with fail
  refine (rSize_any _ (n : Int) (by omega) _ rfl).mono ?_
  rintro e w1 ⟨rfl, rfl⟩
  by_cases hsz : isSz (n : Int)
  case neg =>
    rw [decide_eq_false hsz]
    have HF := Lib.hid (show ¬ isSz (L.length : Int) by rw [HN.out]; exact hsz)
    clear hsz
    go_upto_region 2 with fail
    iterate 4 go_step
    refine wp_store_nd rfl _ _ rfl w.heap.size zeroN none 0 rfl rfl HT1.out ?_
    repeat go_step
    refine ret_nd rfl rfl (NdAt.stored HT1.out zeroN none 0) rfl ?_
    rw [HR.out]
    exact ⟨below_setCellsR hb1 (Nat.le_refl _) _ _, .inl ⟨HF.out, rfl⟩⟩
  rw [decide_eq_true hsz]
  have HSZ := Lib.hid (show isSz (L.length : Int) by rw [HN.out]; exact hsz)
  have hn01 : 256 ≤ n ∧ n ≤ 4096 := by unfold isSz at hsz; omega
  have HMAY := Lib.hid (show mayP (L.length : Int) 8 by rw [HN.out]; exact ⟨by omega, by omega, by omega, by omega⟩)
  clear hsz
  go_wp2_with fail
  refine (rOf_any _ [] (by simp) A n c L HN.out hnc (by omega) (HA.out.keep hb1) HB.out 8 (by unfold i64b; omega) _ rfl).mono ?_
  rintro e w2 ⟨hb2, r2, M2, z2, rfl, hv2, hcs⟩
  have HCS := Lib.hid (show (¬ ofP L 8 ∧ z2 = 14) ∨ (ofP L 8 ∧ M2 = mdlOf L 8 ∧ z2 = 0) by
    rcases hcs with ⟨h, _⟩ | ⟨_, h1, _, h2⟩ | ⟨_, h1, h2, h3⟩
    · exact absurd HMAY.out h
    · exact .inl ⟨h1, h2⟩
    · exact .inr ⟨h1, h2, h3⟩)
  have hb02 : Below w.heap.size w w2 := hb1.trans (hb2.mono (by omega))
  have HT2 := Lib.hid (there_keepR HT1.out hb2 hs1)
  have HTY2 := Lib.hid (HTYw.out.keepB hb2 hs1)
  have HV2 := Lib.hid hv2
  have hz2' := hb2.size
  clear hcs hv2 hb2 hb1 HT1 HTYw
  obtain ⟨W3, hW3⟩ : ∃ W, W = w2.alloc (.cells #[.int .i64 0, .slice none 0 0, .slice none 0 0, .slice none 0 0] 33) := ⟨_, rfl⟩
  have hb23 : Below w2.heap.size w2 W3 := by rw [hW3]; exact (Below.refl _ _).alloc (Nat.le_refl _) _
  have HT3 := Lib.hid (show W3.there w2.heap.size 0 4 by rw [hW3]; exact there_new4 w2 _ _ _ _ _)
  simp only []
  iterate 13 go_step
  rw [← hW3]
  clear hW3
  refine wp_store_rp rfl _ _ rfl w2.heap.size r2 M2 rfl rfl HT3.out ?_
  obtain ⟨w3, hw3⟩ : ∃ W, W = W3.setCells w2.heap.size 0 (rpC r2 M2) := ⟨_, rfl⟩
  have HP3 := Lib.hid (show RpAt w3 w2.heap.size r2 M2 by rw [hw3]; exact RpAt.stored HT3.out _ _)
  have hb3 : Below w2.heap.size w2 w3 := by rw [hw3]; exact below_setCellsR hb23 (Nat.le_refl _) _ _
  rw [← hw3]
  have HV3 := Lib.hid (HV2.out.keep hb3)
  have HT3' := Lib.hid (there_keepR HT2.out hb3 (by omega))
  have HTY3 := Lib.hid (HTY2.out.keepB hb3 (by omega))
  have hb03 : Below w.heap.size w w3 := hb02.trans (hb3.mono hb02.size)
  have hs03 : w.heap.size < w3.heap.size := by have := hb3.size; omega
  obtain ⟨pb, hpb⟩ : ∃ x, w2.heap.size = x := ⟨_, rfl⟩
  rw [hpb] at HP3 ⊢
  clear hw3 hb23 hb3 HT3 HV2 HT2 HTY2 hb02 hpb hz2'
  have hrd := readL_ok (l := L) (p := 4) (k := 4) (by omega) (by omega) (by rw [HN.out]; omega)
  rw [show ((4 : Nat) : Int) = 4 from rfl] at hrd
  have HRD := Lib.hid (show readL L 4 4 = (rtJ L 4, 0) from hrd)
  clear hrd
  go_wp2_with fail
  refine (rread_any _ A n c L 4 4 HN.out hnc hcm (HA.out.keep hb03) HB.out (by omega)).mono ?_
  rintro e w4 ⟨rfl, rfl⟩
  rw [HRD.out]
  obtain ⟨ab, aoff, hAe, hablt, hac⟩ := (HA.out.keep hb03).at (by rw [HN.out]; omega)
  have c0 := hac 0 (by rw [HN.out]; omega)
  rw [Nat.add_zero] at c0
  have hk0 := IsB.bt HB.out 0
  obtain ⟨kd, hkd⟩ : ∃ x, bt L 0 = x := ⟨_, rfl⟩
  rw [hkd] at c0 hk0
  have HKD := Lib.hid hkd
  have ew : IntKind.i64.wrap kd = kd := IntWalk.i64_in _ (by omega)
  have hrt := rtJ_lt HB.out 4 (Nat.le_refl _)
  obtain ⟨rt, hrte⟩ : ∃ x, rtJ L 4 = x := ⟨_, rfl⟩
  rw [hrte] at hrt ⊢
  have HRT := Lib.hid hrte
  have ew2 : IntKind.i64.wrap rt = rt := IntWalk.i64_in _ (by omega)
  clear hac hkd hrte HRD
  subst hAe
  obtain ⟨W5, hW5⟩ : ∃ W, W = w3.alloc (.cells #[.int .i64 0, .slice none 0 0, .int .i64 0] 69) := ⟨_, rfl⟩
  have HT5 := Lib.hid (show W5.there w3.heap.size 0 3 by rw [hW5]; exact there_new3 w3 _ _ _ _)
  have HTY5 := Lib.hid (show TyAt W5 w3.heap.size 69 by rw [hW5]; exact TyAt.new w3 _ _)
  have hb35 : Below w3.heap.size w3 W5 := by rw [hW5]; exact (Below.refl _ _).alloc (Nat.le_refl _) _
  have hl5 : w3.heap.size < W5.heap.size := by rw [hW5]; simp
  have HW5 := Lib.hid hW5
  clear hW5
  go_upto_region 5 with fail
  iterate 25 go_step
  rw [← HW5.out]
  clear HW5 c0 ew ew2
  refine wp_store_nd rfl _ _ rfl w3.heap.size ⟨kd, rt, []⟩ none 0 rfl rfl HT5.out ?_
  obtain ⟨w5, hw5⟩ : ∃ W, W = W5.setCells w3.heap.size 0 (ndC ⟨kd, rt, []⟩ none 0) := ⟨_, rfl⟩
  have HN5 := Lib.hid (show NdAt w5 w3.heap.size ⟨kd, rt, []⟩ none 0 by rw [hw5]; exact NdAt.stored HT5.out _ _ _)
  have HTN5 := Lib.hid (show w5.there w3.heap.size 0 3 by rw [hw5]; exact World.there_setCells HT5.out _ _ _)
  have HTYN5 := Lib.hid (show TyAt w5 w3.heap.size 69 by rw [hw5]; exact TyAt.sets _ _ _ _ HTY5.out)
  have hb5 : Below w3.heap.size w3 w5 := by rw [hw5]; exact below_setCellsR hb35 (Nat.le_refl _) _ _
  have hl5' : w3.heap.size < w5.heap.size := by rw [hw5, size_setCells]; exact hl5
  have HV5 := Lib.hid (HV3.out.keep hb5)
  have HP5 := Lib.hid (HP3.out.keep hb5)
  have HT5r := Lib.hid (there_keepR HT3'.out hb5 hs03)
  have HTY5r := Lib.hid (HTY3.out.keepB hb5 hs03)
  have hb05 : Below w.heap.size w w5 := hb03.trans (hb5.mono hb03.size)
  have hpl := HP3.out.lt
  rw [← hw5]
  obtain ⟨nb, hnb⟩ : ∃ x, w3.heap.size = x := ⟨_, rfl⟩
  have HNB := Lib.hid hnb
  rw [hnb] at HN5 HTN5 HTYN5 hl5' hpl hs03 hb5 ⊢
  clear hw5 hb35 HT5 HTY5 HP3 HT3' HTY3 hb03 hnb hl5
  rcases HCS.out with ⟨hno, rfl⟩ | ⟨hof, rfl, rfl⟩
  · have HF := Lib.hid (show ¬ decOk L from fun h => hno h.1.1)
    clear hno HCS
    go_upto_region 7 with fail
    iterate 4 go_step
    refine wp_store_nd rfl _ _ rfl w.heap.size zeroN none 0 rfl rfl HT5r.out ?_
    repeat go_step
    refine ret_nd rfl rfl (NdAt.stored HT5r.out zeroN none 0) rfl ?_
    rw [HR.out]
    exact ⟨below_setCellsR hb05 (Nat.le_refl _) _ _, .inr (.inl ⟨HSZ.out, HF.out, rfl⟩)⟩
  have HOF := Lib.hid hof
  clear hof HCS
  have m0 := HN5.out.all.1
  simp only at m0
  go_wp2_with fail
  refine (rkind_any _ _).mono ?_
  rintro e w6 ⟨rfl, rfl⟩
  by_cases hk : isK kd
  case neg =>
    rw [decide_eq_false hk]
    have HF := Lib.hid (show ¬ decOk L from fun h => hk (by have := h.2.1.2.1.1; rw [← HKD.out]; exact this))
    clear hk m0
    go_upto_region 7 with fail
    iterate 4 go_step
    refine wp_store_nd rfl _ _ rfl w.heap.size zeroN none 0 rfl rfl HT5r.out ?_
    repeat go_step
    refine ret_nd rfl rfl (NdAt.stored HT5r.out zeroN none 0) rfl ?_
    rw [HR.out]
    exact ⟨below_setCellsR hb05 (Nat.le_refl _) _ _, .inr (.inl ⟨HSZ.out, HF.out, rfl⟩)⟩
  rw [decide_eq_true hk]
  clear hk m0
  obtain ⟨Kn, hKn⟩ : ∃ k, kOf L 8 = k := ⟨_, rfl⟩
  have HKN := Lib.hid hKn
  have HKK := Lib.hid ((mdlOf_k L 8).trans hKn)
  have hKn1 : Kn ≤ 2047 := by rw [← hKn, ← mdlOf_k]; exact HOF.out.1.kle
  have hz5 := hb05.size
  have hlw : w.heap.size < nb := hs03
  clear hKn
  go_wp2_with fail
  go_loopw [9] (VRel w5 nb L) (fun i _ => Kn - (intOf i).toNat)
  case atStart => exact ⟨0, none, 0, Nat.zero_le _, rfl, (by rw [HKD.out, HRT.out]; exact HN5.out), HTN5.out, HTYN5.out, OwnCl.nil _ _ _, fun t ht => by omega, Below.refl _ _⟩
  case round =>
    rename World => wk
    obtain ⟨k, CA, cc, hk, rfl, hat, hth, hty, hown, hall, hbk⟩ := hrel
    rw [HKN.out] at hk
    have HATk := Lib.hid hat
    have HTHk := Lib.hid hth
    have HTYk := Lib.hid hty
    have HOWk := Lib.hid hown
    have HALL := Lib.hid hall
    have hzk := hbk.size
    have HPk := Lib.hid (HP5.out.keepB hbk hpl)
    have HVk := Lib.hid (HV3.out.keep (by rw [HNB.out]; exact hb5.trans hbk))
    have HTRk := Lib.hid (there_keepR HT5r.out hbk hlw)
    have HTYr := Lib.hid (HTY5r.out.keepB hbk hlw)
    have hb0k : Below w.heap.size w wk := hb05.trans (hbk.mono (Nat.le_of_lt hlw))
    have p2 := HPk.out.all.2.2.1
    rw [HKK.out] at p2
    have hnk : nb < wk.heap.size := by omega
    clear hat hth hty hown hall
    by_cases hlt : k < Kn
    · have hlt' : (k : Int) < (Kn : Int) := by omega
      have i0 : (0 : Int) ≤ (k : Int) := by omega
      have hltk : k < (mdlOf L 8).k := by rw [HKK.out]; exact hlt
      obtain ⟨s, hs1, hs2⟩ := HVk.out.rows.get hltk
      obtain ⟨b, off, hCA, hcell⟩ := HVk.out.cells.at (by rw [show (rowC r2.S).length = r2.S.length by simp [rowC], HVk.out.rows.len]; exact Nat.lt_of_le_of_lt (Nat.zero_le _) hltk)
      have hc0 := hcell k _ (rowC_get hs1)
      obtain ⟨hsn, hsc, hsm, hsr⟩ := hs2
      obtain ⟨sA, sn, sc⟩ := s
      simp only at hc0 hsn hsc hsm hsr
      have hclj : (mdlOf L 8).C.getD k [] = cOf L 8 k := mdlOf_cl (by rw [HKN.out]; exact hlt)
      rw [hclj] at hsn hsr
      have HSR := Lib.hid hsr.rd
      have HSN := Lib.hid hsn.symm
      have HCB := Lib.hid (show IsB (cOf L 8 k) from isB_dt HB.out _ _)
      rw [hCA] at p2
      have at0 := HATk.out.all.1
      simp only at at0
      rw [HKD.out] at at0
      have hlb : b < wk.heap.size := World.block_lt_of_cell? wk ⟨b, off + k, none⟩ hc0
      have hlp : pb < wk.heap.size := by omega
      have K0 : ∀ W : World, Below wk.heap.size wk W → W.cell? ⟨nb, 0, none⟩ = some (.int .i64 kd) := fun W hW => (hW.cell (p := ⟨nb, 0, none⟩) hnk).trans at0
      have K2 : ∀ W : World, Below wk.heap.size wk W → W.cell? ⟨pb, 2, none⟩ = some (.slice (some ⟨b, off, none⟩) Kn r2.cc) := fun W hW => (hW.cell (p := ⟨pb, 2, none⟩) hlp).trans p2
      have K5 : ∀ W : World, Below wk.heap.size wk W → W.cell? ⟨b, off + k, none⟩ = some (.slice sA sn sc) := fun W hW => (hW.cell (p := ⟨b, off + k, none⟩) hlb).trans hc0
      obtain ⟨cl, hcl⟩ : ∃ x, (decC kd (cOf L 8 k)).1 = x := ⟨_, rfl⟩
      obtain ⟨zz, hzz⟩ : ∃ x, (decC kd (cOf L 8 k)).2 = x := ⟨_, rfl⟩
      have HCLE := Lib.hid hcl
      have HZZ := Lib.hid hzz
      clear hcell hs1 hsr hsn hclj hCA hlb hlp at0 hc0 hcl hzz
      go_upto_region 11 with fail
      clear p2
      go_cut [10, 11] from 45 to 71 (fun v f wx => ∃ g A7 c7, v = .pointer (some ⟨g, 0, none⟩) ∧ f = .int .i64 zz ∧ Below wk.heap.size wk wx ∧ wx.rangeAt g 0 (clC cl A7 cl.loc.length c7) ∧ ∃ bo, OwnB wx bo A7 cl.loc.length c7 cl.loc)
      case first =>
        refine wp_region_held_drew (S := (fun W => Below wk.heap.size wk W)) (by kernel_rfl) ?_ (fun hHeld => ?_)
        · exact (Below.refl _ wk).drew
        refine' wpAnyH_take (i := 0) (oi := _) (v := _) rfl (by kernel_rfl) (by kernel_rfl) (by kernel_rfl) (fun _ _ _ h => h) (Or.inl ⟨by rfl, ?hz1⟩) (by assumption) ?rezt1
        case hz1 => (intro w' hSw; (try dsimp only at hSw); go_simp; try with_reducible rfl)
        try simp only [Act.put, List.setIfInBounds_toArray, List.set_cons_zero, List.set_cons_succ, List.getElem_toArray, List.getElem_cons_zero, List.getElem_cons_succ]
        refine' wpAnyH_take (i := 1) (oi := _) (v := _) rfl (by kernel_rfl) (by kernel_rfl) (by kernel_rfl) (fun _ _ _ h => h) (Or.inl ⟨by rfl, ?hz2⟩) (by assumption) ?rezt2
        case hz2 => (intro w' hSw; (try dsimp only at hSw); go_simp; try with_reducible rfl)
        try simp only [Act.put, List.setIfInBounds_toArray, List.set_cons_zero, List.set_cons_succ, List.getElem_toArray, List.getElem_cons_zero, List.getElem_cons_succ]
        refine' wpAnyH_take (i := 2) (oi := _) (v := _) rfl (by kernel_rfl) (by kernel_rfl) (by kernel_rfl) (fun _ _ _ h => h) (Or.inl ⟨by rfl, ?hz3⟩) (by assumption) ?rezt3
        case hz3 => (intro w' hSw; (try dsimp only at hSw); go_simp; try with_reducible rfl)
        try simp only [Act.put, List.setIfInBounds_toArray, List.set_cons_zero, List.set_cons_succ, List.getElem_toArray, List.getElem_cons_zero, List.getElem_cons_succ]
        refine' wpAnyH_take (i := 3) (oi := _) (v := _) rfl (by kernel_rfl) (by kernel_rfl) (by kernel_rfl) (fun _ _ _ h => h) (Or.inl ⟨by rfl, ?hz4⟩) (by assumption) ?rezt4
        case hz4 => (intro w' hSw; (try dsimp only at hSw); go_simp; try with_reducible rfl)
        try simp only [Act.put, List.setIfInBounds_toArray, List.set_cons_zero, List.set_cons_succ, List.getElem_toArray, List.getElem_cons_zero, List.getElem_cons_succ]
        refine' wpAnyH_take (i := 4) (oi := _) (v := _) rfl (by kernel_rfl) (by kernel_rfl) (by kernel_rfl) (fun _ _ _ h => h) (Or.inl ⟨by rfl, ?hz5⟩) (by assumption) ?rezt5
        case hz5 => (intro w' hSw; (try dsimp only at hSw); go_simp; try with_reducible rfl)
        try simp only [Act.put, List.setIfInBounds_toArray, List.set_cons_zero, List.set_cons_succ, List.getElem_toArray, List.getElem_cons_zero, List.getElem_cons_succ]
        refine' wpAnyH_take (i := 5) (oi := _) (v := _) rfl (by kernel_rfl) (by kernel_rfl) (by kernel_rfl) (fun _ _ _ h => h) (Or.inl ⟨by rfl, ?hz6⟩) (by assumption) ?rezt6
        case hz6 => (intro w' hSw; (try dsimp only at hSw); go_simp; try with_reducible rfl)
        try simp only [Act.put, List.setIfInBounds_toArray, List.set_cons_zero, List.set_cons_succ, List.getElem_toArray, List.getElem_cons_zero, List.getElem_cons_succ]
        refine' wpAnyH_take (i := 6) (oi := _) (v := _) rfl (by kernel_rfl) (by kernel_rfl) (by kernel_rfl) (fun _ _ _ h => h) (Or.inl ⟨by rfl, ?hz7⟩) (by assumption) ?rezt7
        case hz7 => (intro w' hSw; (try dsimp only at hSw); go_simp; try with_reducible rfl)
        try simp only [Act.put, List.setIfInBounds_toArray, List.set_cons_zero, List.set_cons_succ, List.getElem_toArray, List.getElem_cons_zero, List.getElem_cons_succ]
        refine wpAnyH_ready (rs := [7, 11]) (by kernel_rfl) (by simp) ?_
        refine AllReadyH.cons (o := _) rfl (fun K hK => ?_) (AllReadyH.cons (o := _) rfl (fun K hK => ?_) AllReadyH.nil)
        · go_simp
          have hbd : Below wk.heap.size wk wk.drew := (Below.refl _ wk).drew
          go_at_call 33
          refine (rdecC_any _ kd sA sn sc (cOf L 8 k) HSN.out hsc hsm (HSR.out.keep hbd) HCB.out).mono ?_
          rintro e w6 ⟨A7, n7, c7, rfl, hown7, hb7⟩
          rw [HCLE.out] at hown7
          rw [HCLE.out, HZZ.out]
          have hn7 : cl.loc.length = n7 := hown7.len
          subst hn7
          have hbk6 : Below wk.heap.size wk w6 := hbd.trans (hb7.mono hbd.size)
          have HO7 := Lib.hid hown7
          clear hown7 hbd
          refine hK.out _ _ ?_ (fun hHeld => ?_)
          · exact hbk6
          clear hK K
          try simp only [Act.put, List.setIfInBounds_toArray, List.set_cons_zero, List.set_cons_succ, List.getElem_toArray, List.getElem_cons_zero, List.getElem_cons_succ]
          refine' wpAnyH_take (i := 8) (oi := _) (v := _) rfl (by kernel_rfl) (by kernel_rfl) (by kernel_rfl) (fun _ _ _ h => h) (Or.inl ⟨by rfl, ?hz8⟩) (by assumption) ?rezt8
          case hz8 => (intro w' hSw; (try dsimp only at hSw); go_simp; try with_reducible rfl)
          try simp only [Act.put, List.setIfInBounds_toArray, List.set_cons_zero, List.set_cons_succ, List.getElem_toArray, List.getElem_cons_zero, List.getElem_cons_succ]
          refine' wpAnyH_take (i := 9) (oi := _) (v := _) rfl (by kernel_rfl) (by kernel_rfl) (by kernel_rfl) (fun _ _ _ h => h) (Or.inl ⟨by rfl, ?hz9⟩) (by assumption) ?rezt9
          case hz9 => (intro w' hSw; (try dsimp only at hSw); go_simp; try with_reducible rfl)
          try simp only [Act.put, List.setIfInBounds_toArray, List.set_cons_zero, List.set_cons_succ, List.getElem_toArray, List.getElem_cons_zero, List.getElem_cons_succ]
          refine' wpAnyH_take (i := 10) (oi := _) (v := _) rfl (by kernel_rfl) (by kernel_rfl) (by kernel_rfl) (fun _ _ _ h => h) (Or.inl ⟨by rfl, ?hz10⟩) (by assumption) ?rezt10
          case hz10 => (intro w' hSw; (try dsimp only at hSw); go_simp; try with_reducible rfl)
          try simp only [Act.put, List.setIfInBounds_toArray, List.set_cons_zero, List.set_cons_succ, List.getElem_toArray, List.getElem_cons_zero, List.getElem_cons_succ]
          refine wpAnyH_ready (rs := [11]) (by kernel_rfl) (by simp) ?_
          refine AllReadyH.cons (o := _) rfl (fun K hK => ?_) AllReadyH.nil
          go_simp
          refine hK.out _ _ ?_ (fun hHeld => ?_)
          · exact hbk6.alloc hbk6.size _
          clear hK K
          try simp only [Act.put, List.setIfInBounds_toArray, List.set_cons_zero, List.set_cons_succ, List.getElem_toArray, List.getElem_cons_zero, List.getElem_cons_succ]
          obtain ⟨W8, hW8⟩ : ∃ W, W = w6.alloc (.cells #[.int .i64 0, .int .i64 0, .int .i64 0, .slice none 0 0, .int .i64 0] 55) := ⟨_, rfl⟩
          have hb8 : Below w6.heap.size w6 W8 := by rw [hW8]; exact (Below.refl _ _).alloc (Nat.le_refl _) _
          have HT8 := Lib.hid (show W8.there w6.heap.size 0 5 by rw [hW8]; exact there_new5 w6 _ _ _ _ _ _)
          rw [← hW8]
          clear hW8
          obtain ⟨wf, hwf⟩ : ∃ W, W = W8.setCells w6.heap.size 0 (clC cl A7 cl.loc.length c7) := ⟨_, rfl⟩
          have hb6f : Below w6.heap.size w6 wf := by rw [hwf]; exact below_setCellsR hb8 (Nat.le_refl _) _ _
          have HRG := Lib.hid (show wf.rangeAt w6.heap.size 0 (clC cl A7 cl.loc.length c7) by rw [hwf]; exact World.rangeAt_setCells_same _ _ _ _ HT8.out)
          have HOE := Lib.hid (HO7.out.keep hb6f)
          have hbe : Below wk.heap.size wk wf := hbk6.trans (hb6f.mono hbk6.size)
          refine wpAnyH_ready (rs := [12]) (by kernel_rfl) (by simp) ?_
          refine AllReadyH.cons (o := _) rfl (fun K hK => ?_) AllReadyH.nil
          refine step_store_cl rfl _ _ rfl w6.heap.size cl A7 cl.loc.length c7 rfl rfl HT8.out ?_
          rw [← hwf]
          refine hK.out _ _ ?_ (fun hHeld => ?_)
          · exact hbe
          clear hK K
          try simp only [Act.put, List.setIfInBounds_toArray, List.set_cons_zero, List.set_cons_succ, List.getElem_toArray, List.getElem_cons_zero, List.getElem_cons_succ]
          refine' wpAnyH_take (i := 13) (oi := _) (v := _) rfl (by kernel_rfl) (by kernel_rfl) (by kernel_rfl) (fun _ _ _ h => h) (Or.inl ⟨by rfl, ?hz11⟩) (by assumption) ?rezt11
          case hz11 => (intro w' hSw; (try dsimp only at hSw); go_simp; try with_reducible rfl)
          try simp only [Act.put, List.setIfInBounds_toArray, List.set_cons_zero, List.set_cons_succ, List.getElem_toArray, List.getElem_cons_zero, List.getElem_cons_succ]
          refine wpAnyH_done (by kernel_rfl) ?_ _
          go_wp2_with fail
          go_meet
          exact ⟨_, A7, c7, rfl, rfl, hbe, HRG.out, _, HOE.out⟩
        · go_simp
          refine hK.out _ _ ?_ (fun hHeld => ?_)
          · exact ((Below.refl _ wk).alloc (Nat.le_refl _) _).drew
          clear hK K
          try simp only [Act.put, List.setIfInBounds_toArray, List.set_cons_zero, List.set_cons_succ, List.getElem_toArray, List.getElem_cons_zero, List.getElem_cons_succ]
          obtain ⟨W8, hW8⟩ : ∃ W, W = (wk.alloc (.cells #[.int .i64 0, .int .i64 0, .int .i64 0, .slice none 0 0, .int .i64 0] 55)).drew := ⟨_, rfl⟩
          have hb8 : Below wk.heap.size wk W8 := by rw [hW8]; exact ((Below.refl _ _).alloc (Nat.le_refl _) _).drew
          have hl8 : wk.heap.size < W8.heap.size := by rw [hW8]; show _ < (wk.alloc (.cells #[.int .i64 0, .int .i64 0, .int .i64 0, .slice none 0 0, .int .i64 0] 55)).heap.size; simp
          have HT8 := Lib.hid (show W8.there wk.heap.size 0 5 by rw [hW8]; exact there_keepR (there_new5 wk _ _ _ _ _ _) (Below.refl (wk.heap.size + 1) _).drew (Nat.lt_succ_self _))
          rw [← hW8]
          clear hW8
          refine wpAnyH_ready (rs := [7]) (by kernel_rfl) (by simp) ?_
          refine AllReadyH.cons (o := _) rfl (fun K hK => ?_) AllReadyH.nil
          go_simp
          have hbd : Below wk.heap.size wk W8 := hb8
          go_at_call 33
          refine (rdecC_any _ kd sA sn sc (cOf L 8 k) HSN.out hsc hsm (HSR.out.keep hbd) HCB.out).mono ?_
          rintro e w6 ⟨A7, n7, c7, rfl, hown7, hb7⟩
          rw [HCLE.out] at hown7
          rw [HCLE.out, HZZ.out]
          have hn7 : cl.loc.length = n7 := hown7.len
          subst hn7
          have hbk6 : Below wk.heap.size wk w6 := hbd.trans (hb7.mono hbd.size)
          have HO7 := Lib.hid hown7
          clear hown7 hbd
          refine hK.out _ _ ?_ (fun hHeld => ?_)
          · exact hbk6
          clear hK K
          try simp only [Act.put, List.setIfInBounds_toArray, List.set_cons_zero, List.set_cons_succ, List.getElem_toArray, List.getElem_cons_zero, List.getElem_cons_succ]
          refine' wpAnyH_take (i := 8) (oi := _) (v := _) rfl (by kernel_rfl) (by kernel_rfl) (by kernel_rfl) (fun _ _ _ h => h) (Or.inl ⟨by rfl, ?hz12⟩) (by assumption) ?rezt12
          case hz12 => (intro w' hSw; (try dsimp only at hSw); go_simp; try with_reducible rfl)
          try simp only [Act.put, List.setIfInBounds_toArray, List.set_cons_zero, List.set_cons_succ, List.getElem_toArray, List.getElem_cons_zero, List.getElem_cons_succ]
          refine' wpAnyH_take (i := 9) (oi := _) (v := _) rfl (by kernel_rfl) (by kernel_rfl) (by kernel_rfl) (fun _ _ _ h => h) (Or.inl ⟨by rfl, ?hz13⟩) (by assumption) ?rezt13
          case hz13 => (intro w' hSw; (try dsimp only at hSw); go_simp; try with_reducible rfl)
          try simp only [Act.put, List.setIfInBounds_toArray, List.set_cons_zero, List.set_cons_succ, List.getElem_toArray, List.getElem_cons_zero, List.getElem_cons_succ]
          refine' wpAnyH_take (i := 10) (oi := _) (v := _) rfl (by kernel_rfl) (by kernel_rfl) (by kernel_rfl) (fun _ _ _ h => h) (Or.inl ⟨by rfl, ?hz14⟩) (by assumption) ?rezt14
          case hz14 => (intro w' hSw; (try dsimp only at hSw); go_simp; try with_reducible rfl)
          try simp only [Act.put, List.setIfInBounds_toArray, List.set_cons_zero, List.set_cons_succ, List.getElem_toArray, List.getElem_cons_zero, List.getElem_cons_succ]
          have HT9 := Lib.hid (there_keepR HT8.out hb7 hl8)
          obtain ⟨wf, hwf⟩ : ∃ W, W = w6.setCells wk.heap.size 0 (clC cl A7 cl.loc.length c7) := ⟨_, rfl⟩
          have HRG := Lib.hid (show wf.rangeAt wk.heap.size 0 (clC cl A7 cl.loc.length c7) by rw [hwf]; exact World.rangeAt_setCells_same _ _ _ _ HT9.out)
          have HOE := Lib.hid (HO7.out.apartC (w' := wf) (fun i hi => by rw [hwf]; exact heap_setCells_ne _ _ _ _ (by omega)))
          have hbe : Below wk.heap.size wk wf := by rw [hwf]; exact below_setCellsR hbk6 (Nat.le_refl _) _ _
          refine wpAnyH_ready (rs := [12]) (by kernel_rfl) (by simp) ?_
          refine AllReadyH.cons (o := _) rfl (fun K hK => ?_) AllReadyH.nil
          refine step_store_cl rfl _ _ rfl wk.heap.size cl A7 cl.loc.length c7 rfl rfl HT9.out ?_
          rw [← hwf]
          refine hK.out _ _ ?_ (fun hHeld => ?_)
          · exact hbe
          clear hK K
          try simp only [Act.put, List.setIfInBounds_toArray, List.set_cons_zero, List.set_cons_succ, List.getElem_toArray, List.getElem_cons_zero, List.getElem_cons_succ]
          refine' wpAnyH_take (i := 13) (oi := _) (v := _) rfl (by kernel_rfl) (by kernel_rfl) (by kernel_rfl) (fun _ _ _ h => h) (Or.inl ⟨by rfl, ?hz15⟩) (by assumption) ?rezt15
          case hz15 => (intro w' hSw; (try dsimp only at hSw); go_simp; try with_reducible rfl)
          try simp only [Act.put, List.setIfInBounds_toArray, List.set_cons_zero, List.set_cons_succ, List.getElem_toArray, List.getElem_cons_zero, List.getElem_cons_succ]
          refine wpAnyH_done (by kernel_rfl) ?_ _
          go_wp2_with fail
          go_meet
          exact ⟨_, A7, c7, rfl, rfl, hbe, HRG.out, _, HOE.out⟩
      case rest =>
        rename World => w9
        obtain ⟨gc, A7, c7, rfl, rfl, hbk9, hr9, bo, hown9⟩ := hcut
        have HR9 := Lib.hid hr9
        have HO9 := Lib.hid hown9
        have hz9 := hbk9.size
        have HAT9 := Lib.hid (HATk.out.keep hbk9)
        have HTH9 := Lib.hid (there_keepR HTHk.out hbk9 hnk)
        have HTY9 := Lib.hid (HTYk.out.keepB hbk9 hnk)
        have HOW9 := Lib.hid (HOWk.out.keep hbk9)
        have HTR9 := Lib.hid (there_keepR HTRk.out hbk9 (by omega))
        have hb09 : Below w.heap.size w w9 := hb0k.trans (hbk9.mono hb0k.size)
        clear hr9 hown9 K0 K2 K5
        by_cases hz : zz = 0
        case neg =>
          have HF := Lib.hid (show ¬ decOk L from fun h => hz (by rw [← HZZ.out, ← HKD.out]; exact h.1.2 k (by rw [HKN.out]; exact hlt)))
          have q : (zz != 0) = true := by simp [hz]
          clear hz
          go_upto_region 13 with fail
          iterate 4 go_step
          refine wp_store_nd rfl _ _ rfl w.heap.size zeroN none 0 rfl rfl HTR9.out ?_
          repeat go_step
          refine ret_nd rfl rfl (NdAt.stored HTR9.out zeroN none 0) rfl ?_
          rw [HR.out]
          exact ⟨below_setCellsR hb09 (Nat.le_refl _) _ _, .inr (.inl ⟨HSZ.out, HF.out, rfl⟩)⟩
        subst hz
        have m1 := HAT9.out.all.2.1
        simp only [ndCells_len] at m1
        go_upto_region 14 with fail
        iterate 7 go_step
        clear m1
        refine wp_load_clg5 rfl _ rfl gc cl A7 cl.loc.length c7 rfl HR9.out ?_
        have hba : Below w9.heap.size w9 (w9.alloc (.cells #[.int .i64 cl.key, .int .i64 cl.child, .int .i64 cl.total, .slice A7 cl.loc.length c7, .int .i64 cl.spill] 55)) := (Below.refl _ _).alloc (Nat.le_refl _) _
        iterate 3 go_step
        have hc7 := HO9.out.cap
        refine wp_append_cl rfl (.tmp 67) (.tmp 69) rfl 0 w5.heap.size (Nat.zero_le _) CA k cc (ndCells L k) rfl (HOW9.out.keep hba) _ 1 1 [cl] rfl rfl (.inr ⟨_, 0, clC cl A7 cl.loc.length c7, rfl, fun t u hu => by
          rw [Nat.zero_add, heap_cell (heap_alloc_new w9 _)]
          simpa [clC] using hu, CellVals.one hc7.1 hc7.2 (.inr ⟨_, HO9.out.keep hba⟩)⟩) (by omega) (by simp; omega) ?_
        intro A10 c10 w10 hown10 hb10
        have hbB : Below w5.heap.size wk w10 := (hbk9.mono hzk).trans ((hba.mono (by omega)).trans hb10)
        have hbN : Below nb wk w10 := hbB.mono (by omega)
        have HAT10 := Lib.hid (show NdAt w10 nb ⟨bt L 0, rtJ L 4, ndCells L k⟩ CA cc from (HAT9.out.keepB ((hba.mono (by omega)).trans hb10) hl5'))
        have HTH10 := Lib.hid (there_keepR HTH9.out ((hba.mono (by omega)).trans hb10) hl5')
        have HTY10 := Lib.hid (HTY9.out.keepB ((hba.mono (by omega)).trans hb10) hl5')
        have HOW10 := Lib.hid (show OwnCl w10 0 w5.heap.size A10 (k + 1) c10 (ndCells L (k + 1)) by
          have e : ndCells L (k + 1) = ndCells L k ++ [cl] := by rw [ndCells_step, HKD.out, HCLE.out]
          rw [e]
          exact hown10)
        clear hown10 hb10 hba HAT9 HTH9 HOW9 HO9 HR9 HTR9
        have m1 := HAT10.out.all.2.1
        simp only [ndCells_len] at m1
        have hf1 := (HTH10.out 1 (by decide)).2
        rw [Nat.zero_add] at hf1
        go_wp2_with fail
        go_roundw
        case rel =>
          have hat := HAT10.out.setCs (A' := A10) (ndCells L (k + 1)) c10
          rw [ndCells_len] at hat
          refine ⟨k + 1, A10, c10, by rw [HKN.out]; omega, by go_num, hat, there_setG HTH10.out _ _, HTY10.out.set _ _, HOW10.out.ty HTY10.out (by decide) (by decide) (Nat.zero_le _) (fun i hi _ => heap_setG_ne _ _ _ hi), fun t ht => ?_, (hbk.trans hbN).setCell (Nat.le_refl _) _⟩
          by_cases e : t = k
          · rw [e, HKD.out]; exact HZZ.out
          · exact HALL.out t (by omega)
        case measure => simp [intOf]; omega
    · obtain rfl : k = Kn := by omega
      have HROK := Lib.hid (show readOk L from ⟨HOF.out, fun t ht => HALL.out t (by rw [HKN.out] at ht; exact ht)⟩)
      have hlL : L.length ≤ 4096 := by rw [HN.out]; exact hn01.2
      have HNOK := Lib.hid (nodeOf_ok HB.out hlL HROK.out.2)
      have HNF := Lib.hid (show NdAt wk nb (nodeOf L) CA cc by
        have := HATk.out
        rw [← HKN.out] at this
        exact this)
      have hNL : (nodeOf L).cs.length = k := by show (ndCells L (kOf L 8)).length = k; rw [ndCells_len, HKN.out]
      have HNL := Lib.hid hNL
      have HOWF := Lib.hid (show OwnCl wk 0 w5.heap.size CA (nodeOf L).cs.length cc (nodeOf L).cs by
        rw [hNL]
        have := HOWk.out
        rwa [show ndCells L k = (nodeOf L).cs by show ndCells L k = ndCells L (kOf L 8); rw [HKN.out]] at this)
      have HDEC := Lib.hid (show decOk L ↔ mayN (nodeOf L) ∧ fitN (nodeOf L) (L.length : Int) ∧ IsP L (nodeM (nodeOf L) L.length) from ⟨fun h => ⟨h.2.1.2, h.2.2⟩, fun h => ⟨HROK.out, ⟨HSZ.out, h.1⟩, h.2⟩⟩)
      obtain ⟨N0, hN0⟩ : ∃ m, nodeOf L = m := ⟨_, rfl⟩
      rw [hN0] at HNF HOWF HNL HNOK HDEC
      have HN0 := Lib.hid hN0
      clear hNL hN0 HATk HTHk HOWk hlL
      go_upto_region 15 with fail
      clear p2
      go_step
      refine wp_load_nd rfl _ rfl nb N0 CA cc rfl HNF.out ?_
      go_wp2_with fail
      refine (rEncode_any _ N0 CA cc (n : Int) (by unfold i64b; omega) (by have := HNL.out; omega) HNOK.out.1 (fun d hd => by have := HNOK.out.2 d hd; omega) HOWF.out.rd _ rfl).mono ?_
      rintro e w6 ⟨hb6, hcs⟩
      have hz0k := hb0k.size
      have HT6 := Lib.hid (there_keepR HTRk.out hb6 (by omega))
      have HTY6 := Lib.hid (HTYr.out.keepB hb6 (by omega))
      have HN6 := Lib.hid (HNF.out.keep hb6)
      have HOW6 := Lib.hid (HOWF.out.keep hb6)
      have hb06 : Below w.heap.size w w6 := hb0k.trans (hb6.mono hz0k)
      rcases hcs with ⟨hno, rfl⟩ | ⟨_, hnf, rfl⟩ | ⟨hok6, hf, A6, n6, c6, L6, rfl, hi6, hown6⟩
      · have HF := Lib.hid (show ¬ decOk L from fun h => hno ⟨by rw [← HN.out]; exact HSZ.out, (HDEC.out.1 h).1⟩)
        have q : ((1 : Int) != 0) = true := rfl
        clear hno
        go_upto_region 17 with fail
        iterate 4 go_step
        refine wp_store_nd rfl _ _ rfl w.heap.size zeroN none 0 rfl rfl HT6.out ?_
        repeat go_step
        refine ret_nd rfl rfl (NdAt.stored HT6.out zeroN none 0) rfl ?_
        rw [HR.out]
        exact ⟨below_setCellsR hb06 (Nat.le_refl _) _ _, .inr (.inl ⟨HSZ.out, HF.out, rfl⟩)⟩
      · have HF := Lib.hid (show ¬ decOk L from fun h => hnf (by rw [← HN.out]; exact (HDEC.out.1 h).2.1))
        have q : ((5 : Int) != 0) = true := rfl
        clear hnf
        go_upto_region 17 with fail
        iterate 4 go_step
        refine wp_store_nd rfl _ _ rfl w.heap.size zeroN none 0 rfl rfl HT6.out ?_
        repeat go_step
        refine ret_nd rfl rfl (NdAt.stored HT6.out zeroN none 0) rfl ?_
        rw [HR.out]
        exact ⟨below_setCellsR hb06 (Nat.le_refl _) _ _, .inr (.inl ⟨HSZ.out, HF.out, rfl⟩)⟩
      rw [Int.toNat_natCast] at hi6
      have HI6 := Lib.hid hi6
      have HO6 := Lib.hid hown6
      have q : ((0 : Int) != 0) = false := rfl
      have HM := Lib.hid hok6.2
      have HGN := Lib.hid (show Good (nodeM N0 n) from nodeM_good (by rw [← HN.out]; exact HSZ.out) HM.out (fun d hd => (HNOK.out.1.2.2 d hd).2) hf)
      have HFN := Lib.hid hf
      have hlen6 : n6 ≤ 4096 := by rw [← hown6.len, hi6.len]; exact (by have := (put_full (n := N0) (s := n) (by rw [← HN.out]; exact HSZ.out) (fun d hd => (HNOK.out.1.2.2 d hd).2) hf).n; rw [show (nodeM N0 n).n = n from this]; exact hn01.2)
      clear hi6 hown6 hf hok6
      go_wp2_with fail
      refine (same1_any _ A6 (some ⟨ab, aoff, none⟩) n6 c6 n c L6 L HO6.out.len HN.out (by omega) HO6.out.rd (HA.out.keep hb06)).mono ?_
      rintro e w7 ⟨rfl, hb7⟩
      have HT7 := Lib.hid (there_keepR HT6.out hb7 (by have := hb6.size; omega))
      have HTY7 := Lib.hid (HTY6.out.keepB hb7 (by have := hb6.size; omega))
      have HN7 := Lib.hid (HN6.out.keep hb7)
      have HOW7 := Lib.hid (HOW6.out.keep hb7)
      have hb07 : Below w.heap.size w w7 := hb06.trans (hb7.mono hb06.size)
      by_cases hLL : L6 = L
      · have HD := Lib.hid (show decOk L from HDEC.out.2 ⟨HM.out, by rw [HN.out]; exact HFN.out, by rw [HN.out]; exact hLL ▸ HI6.out⟩)
        rw [(beqL_iff _ _).2 hLL]
        clear hLL
        go_upto_region 18 with fail
        go_step
        refine wp_load_nd rfl _ rfl nb N0 CA cc rfl HN7.out ?_
        refine wp_store_nd rfl _ _ rfl w.heap.size N0 CA cc rfl rfl HT7.out ?_
        repeat go_step
        refine ret_nd rfl rfl (NdAt.stored HT7.out N0 CA cc) rfl ?_
        rw [HR.out]
        refine ⟨below_setCellsR hb07 (Nat.le_refl _) _ _, .inr (.inr ⟨HSZ.out, HD.out, CA, cc, by rw [HN0.out]; rfl, ?_⟩)⟩
        rw [HN0.out]
        exact (HOW7.out.ty (w' := w7.setCells w.heap.size 0 (ndC N0 CA cc)) HTY7.out (by decide) (by decide) (Nat.zero_le _) (fun i hi _ => heap_setCells_ne _ _ _ _ hi)).mono (by omega)
      · have HF := Lib.hid (show ¬ decOk L from fun h => hLL (IsP.eq HGN.out HI6.out (by rw [← HN.out]; exact (HDEC.out.1 h).2.2)))
        rw [(beqL_no _ _).2 hLL]
        clear hLL
        go_upto_region 17 with fail
        iterate 4 go_step
        refine wp_store_nd rfl _ _ rfl w.heap.size zeroN none 0 rfl rfl HT7.out ?_
        repeat go_step
        refine ret_nd rfl rfl (NdAt.stored HT7.out zeroN none 0) rfl ?_
        rw [HR.out]
        exact ⟨below_setCellsR hb07 (Nat.le_refl _) _ _, .inr (.inl ⟨HSZ.out, HF.out, rfl⟩)⟩
end
section
open Go.RowKit
set_option maxRecDepth 100000
set_option linter.unusedVariables false
set_option linter.unusedSimpArgs false
set_option linter.unnecessarySimpa false
/-- What bytes say, whoever reads them. -/
theorem DecN.one {L : List Int} (hl : isSz (L.length : Int) → L.length ≤ 4096) : ∃ (N : Nd) (z : Int), (∀ w e w', DecN w L e w' → Below w.heap.size w w' ∧ ∃ A c, e = .returned (.tuple #[N.val A c, .int .i64 z]) ∧ RdCl w' A N.cs) ∧ N.cs.length ≤ 5000 ∧ (z = 0 → isSz (L.length : Int) ∧ decOk L ∧ N = nodeOf L) := by
  by_cases h1 : isSz (L.length : Int)
  · by_cases h2 : decOk L
    · refine ⟨nodeOf L, 0, fun w e w' h => ⟨h.1, ?_⟩, ?_, fun _ => ⟨h1, h2, rfl⟩⟩
      · rcases h.2 with ⟨q, _⟩ | ⟨_, q, _⟩ | ⟨_, _, A, c, rfl, hown⟩
        · exact absurd h1 q
        · exact absurd h2 q
        · exact ⟨A, c, rfl, hown.rd⟩
      · have := ndCells_le h2.1.1 (by unfold isSz at h1; omega); omega
    · refine ⟨zeroN, 14, fun w e w' h => ⟨h.1, ?_⟩, by simp [zeroN], fun h => by omega⟩
      rcases h.2 with ⟨q, _⟩ | ⟨_, _, rfl⟩ | ⟨_, q, _⟩
      · exact absurd h1 q
      · exact ⟨none, 0, rfl, .inl rfl⟩
      · exact absurd q h2
  · refine ⟨zeroN, 1, fun w e w' h => ⟨h.1, ?_⟩, by simp [zeroN], fun h => by omega⟩
    rcases h.2 with ⟨_, rfl⟩ | ⟨q, _⟩ | ⟨q, _⟩
    · exact ⟨none, 0, rfl, .inl rfl⟩
    · exact absurd q h1
    · exact absurd q h1

set_option maxHeartbeats 64000000 in
theorem nodeReads_walk (w : World) (A : Option Addr) (n c : Nat) (L : List Int) (hn : L.length = n) (hnc : n ≤ c) (hcm : c ≤ maxLen) (hA : Rd w A L) (hB : IsB L) :
    Calls Try.prog 12 #[.slice A n c] w fun e w' => e = .returned (.bool true) ∧ Below w.heap.size w w' := by
  obtain ⟨N, z, hone, hl5, hz0⟩ := DecN.one (L := L) (fun h => by unfold isSz at h; omega)
  have HA := Lib.hid hA
  have HN := Lib.hid hn
  have HB := Lib.hid hB
  have HD := Lib.hid hone
  have HZ0 := Lib.hid hz0
  clear hA hn hB hone hz0
  by_cases h8 : 8192 < n
  · have h8' : (8192 : Int) < (n : Int) := by omega
    go_enter Try.func12, Try.ntmps12
    go_wp2_with fail
    refine (live19_any _ _ rfl).mono ?_
    rintro e w2 ⟨rfl, hb2⟩
    go_wp2_with fail
    go_ret
    exact ⟨rfl, hb2⟩
  have h8' : ¬ (8192 : Int) < (n : Int) := by omega
  go_enter Try.func12, Try.ntmps12
  go_wp2_with fail
  refine (nDecode_any _ A n c L HN.out hnc hcm HA.out HB.out _ rfl).mono ?_
  intro e w2 hd
  obtain ⟨hb2, A2, c2, rfl, hr2⟩ := HD.out _ _ _ hd
  have HR2 := Lib.hid hr2
  clear hd hr2
  simp only []
  iterate 13 go_step
  obtain ⟨W3, hW3⟩ : ∃ W, W = w2.alloc (.cells #[.int .i64 0, .slice none 0 0, .int .i64 0] 69) := ⟨_, rfl⟩
  have HT3 := Lib.hid (show W3.there w2.heap.size 0 3 by rw [hW3]; exact there_new3 w2 _ _ _ _)
  have hb23 : Below w2.heap.size w2 W3 := by rw [hW3]; exact (Below.refl _ _).alloc (Nat.le_refl _) _
  rw [← hW3]
  clear hW3
  refine wp_store_nd rfl _ _ rfl w2.heap.size N A2 c2 rfl rfl HT3.out ?_
  obtain ⟨w4, hw4⟩ : ∃ W, W = W3.setCells w2.heap.size 0 (ndC N A2 c2) := ⟨_, rfl⟩
  have HM4 := Lib.hid (show NdAt w4 w2.heap.size N A2 c2 by rw [hw4]; exact NdAt.stored HT3.out _ _ _)
  have hb24 : Below w2.heap.size w2 w4 := by rw [hw4]; exact below_setCellsR hb23 (Nat.le_refl _) _ _
  have hb04 : Below w.heap.size w w4 := hb2.trans (hb24.mono hb2.size)
  have HR4 := Lib.hid (HR2.out.keep hb24)
  rw [← hw4]
  obtain ⟨g1, hg1⟩ : ∃ x, w2.heap.size = x := ⟨_, rfl⟩
  rw [hg1] at HM4 ⊢
  clear hw4 hb23 hb24 HT3 HR2 hg1 hb2
  go_wp2_with fail
  refine (rDecode19_any _ A n c L HN.out hnc hcm (HA.out.keep hb04) HB.out (by omega) _ rfl).mono ?_
  intro e w5 hd
  obtain ⟨hb5, A5, c5, rfl, hr5⟩ := HD.out _ _ _ hd
  have HR5 := Lib.hid hr5
  have HM5 := Lib.hid (HM4.out.keep hb5)
  have HR5' := Lib.hid (HR4.out.keep hb5)
  have hb05 : Below w.heap.size w w5 := hb04.trans (hb5.mono hb04.size)
  clear hd hr5 hb5 hb04 HM4 HR4
  simp only []
  iterate 13 go_step
  obtain ⟨W6, hW6⟩ : ∃ W, W = w5.alloc (.cells #[.int .i64 0, .slice none 0 0, .int .i64 0] 69) := ⟨_, rfl⟩
  have HT6 := Lib.hid (show W6.there w5.heap.size 0 3 by rw [hW6]; exact there_new3 w5 _ _ _ _)
  have hb56 : Below w5.heap.size w5 W6 := by rw [hW6]; exact (Below.refl _ _).alloc (Nat.le_refl _) _
  rw [← hW6]
  clear hW6
  refine wp_store_nd rfl _ _ rfl w5.heap.size N A5 c5 rfl rfl HT6.out ?_
  obtain ⟨w7, hw7⟩ : ∃ W, W = W6.setCells w5.heap.size 0 (ndC N A5 c5) := ⟨_, rfl⟩
  have HM7 := Lib.hid (show NdAt w7 w5.heap.size N A5 c5 by rw [hw7]; exact NdAt.stored HT6.out _ _ _)
  have hb57 : Below w5.heap.size w5 w7 := by rw [hw7]; exact below_setCellsR hb56 (Nat.le_refl _) _ _
  have hb07 : Below w.heap.size w w7 := hb05.trans (hb57.mono hb05.size)
  have HR7 := Lib.hid (HR5.out.keep hb57)
  have HR7' := Lib.hid (HR5'.out.keep hb57)
  have HM7' := Lib.hid (HM5.out.keep hb57)
  rw [← hw7]
  obtain ⟨g2, hg2⟩ : ∃ x, w5.heap.size = x := ⟨_, rfl⟩
  rw [hg2] at HM7 ⊢
  clear hw7 hb56 hb57 HT6 HR5 HR5' HM5 hg2 hb05
  go_upto_region 5 with fail
  go_step
  refine wp_load_nd rfl _ rfl g1 N A2 c2 rfl HM7'.out ?_
  refine wp_load_nd rfl _ rfl g2 N A5 c5 rfl HM7.out ?_
  go_wp2_with fail
  refine (same19_any _ N N A2 A5 c2 c5 (by omega) (by omega) HR7'.out HR7.out _ rfl).mono ?_
  rintro e w8 ⟨rfl, hb8⟩
  rw [decide_eq_true (show N = N from rfl)]
  have hb08 : Below w.heap.size w w8 := hb07.trans (hb8.mono hb07.size)
  have HR8 := Lib.hid (HR7'.out.keep hb8)
  have HM8 := Lib.hid (HM7'.out.keep hb8)
  have q1 : (z != z) = false := by simp
  clear hb8 hb07 HM7 HM7' HR7 HR7'
  by_cases hz : z = 0
  case neg =>
    have q2 : (z != 0) = true := by simp [hz]
    have HZN := Lib.hid hz
    clear hz
    go_wp2_with fail
    refine (live19_any _ _ rfl).mono ?_
    rintro e w9 ⟨rfl, hb9⟩
    have hbe := hb08.trans (hb9.mono hb08.size)
    go_wp2_with fail
    go_ret
    exact ⟨rfl, hbe⟩
  subst hz
  obtain ⟨hsz, hdec, hNL⟩ := HZ0.out rfl
  have hl4 : n ≤ 4096 := by have := HN.out; unfold isSz at hsz; omega
  have HOK := Lib.hid (show NdOk N ∧ ∀ c ∈ N.cs, c.loc.length ≤ 4096 by rw [hNL]; exact nodeOf_ok HB.out (by rw [HN.out]; exact hl4) hdec.1.2)
  have HY := Lib.hid (show okN N (n : Int) ∧ fitN N (n : Int) by rw [hNL, ← HN.out]; exact ⟨hdec.2.1, hdec.2.2.1⟩)
  have HIP := Lib.hid (show IsP L (nodeM N n) by rw [hNL, ← HN.out]; exact hdec.2.2.2)
  clear hsz hdec hNL HZ0
  go_upto_region 9 with fail
  go_step
  refine wp_load_nd rfl _ rfl g1 N A2 c2 rfl HM8.out ?_
  go_wp2_with fail
  refine (nEncode_any _ N A2 c2 (n : Int) (by unfold i64b; omega) (by omega) HOK.out.1 (fun d hd => by have := HOK.out.2 d hd; omega) HR8.out _ rfl).mono ?_
  intro e w9 henc
  obtain ⟨hb9, A9, m9, c9, L9, rfl, hip, hown⟩ := henc.yes HY.out
  rw [Int.toNat_natCast] at hip
  have hLL : L9 = L := IsP.eq (nodeM_good HY.out.1.1 HY.out.1.2 (fun c hc => (HOK.out.1.2.2 c hc).2) HY.out.2) hip HIP.out
  rw [hLL] at hown
  have HO9 := Lib.hid hown
  have hb09 : Below w.heap.size w w9 := hb08.trans (hb9.mono hb08.size)
  have hm9 : m9 ≤ 4096 := by have h1 := hown.len; have h2 := HN.out; omega
  clear henc hip hLL hown hb9 hb08
  go_wp2_with fail
  refine (live19_any _ _ rfl).mono ?_
  rintro e wa ⟨rfl, hba⟩
  have hb0a : Below w.heap.size w wa := hb09.trans (hba.mono hb09.size)
  have HOa := Lib.hid (HO9.out.keep hba)
  clear hba hb09 HO9
  go_wp2_with fail
  refine (same1_any _ A9 A m9 c9 n c L L HOa.out.len HN.out (by omega) HOa.out.rd (HA.out.keep hb0a)).mono ?_
  rintro e wb ⟨rfl, hbb⟩
  rw [beqL_self]
  have hbe := hb0a.trans (hbb.mono hb0a.size)
  go_wp2_with fail
  go_ret
  exact ⟨rfl, hbe⟩
end
end Go.Proofs.Ytoeaffmlolapnaa
