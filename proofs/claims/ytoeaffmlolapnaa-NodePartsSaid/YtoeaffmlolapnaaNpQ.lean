/- Several texts of this proof as one: NdM, NdN. Laid by merge.py. -/
import Derived.Test.YtoeaffmlolapnaaNpA
import Derived.Test.YtoeaffmlolapnaaNpB
import Derived.Test.YtoeaffmlolapnaaNpC
import Derived.Test.YtoeaffmlolapnaaNpD
import Derived.Test.YtoeaffmlolapnaaNpE
import Derived.Test.YtoeaffmlolapnaaNpF
import Derived.Test.YtoeaffmlolapnaaNpG
import Derived.Test.YtoeaffmlolapnaaNpH
import Derived.Test.YtoeaffmlolapnaaNpI
import Derived.Test.YtoeaffmlolapnaaNpJ
import Derived.Test.YtoeaffmlolapnaaNpK
import Derived.Test.YtoeaffmlolapnaaNpL
import Derived.Test.YtoeaffmlolapnaaNpM
import Derived.Test.YtoeaffmlolapnaaNpN
import Derived.Test.YtoeaffmlolapnaaNpO
import Derived.Test.YtoeaffmlolapnaaNpP
import Derived.ArgAppend
import Derived.BigQuiet
import Derived.ChangeOld
import Derived.Deep.DeepCutAuto
import Derived.Deep.Matrix
import Derived.Deep.MidRow
import Derived.Deep.QuietTactic
import Derived.Deep.RegionHeld3
import Derived.Deep.Slices
import Derived.Handy
import Derived.Laws.CopyOwn
import Derived.Laws.Externs
import Derived.Laws.ResultCell
import Derived.Lib.AppendStr
import Derived.Lib.Hide
import Derived.Lib.MakeNoZero
import Derived.Lib.SlBuf
import Derived.Lib.SliceRun
import Derived.Lib.SmallJoins
import Derived.Maps.AppendAt
import Derived.OpenShut
import Derived.ProofKit
import Derived.ShutString
import Derived.SizedLaws
import Derived.Test.YtoeaffmlolapnaaProg
import Derived.WalkKit
import Derived.WalkSpells
namespace Go.Proofs.Ytoeaffmlolapnaa
section
open Go.RowKit
set_option maxRecDepth 100000
set_option linter.unusedVariables false
set_option linter.unusedSimpArgs false
set_option linter.unnecessarySimpa false
set_option maxHeartbeats 4000000 in
/-- slices.Clone of bytes, whatever its room is. -/
theorem pclone2_any (w : World) (A : Option Addr) (n c : Nat) (l : List Int) (hl : l.length = n) (hn : n ≤ 1000000) (hA : Rd w A l) :
    Calls Try.prog 63 #[.slice A n c] w (BytesBack w l) := by
  have HL := Lib.hid hl
  have HA := Lib.hid hA
  clear hA
  have hq := Lib.run_eql_slice_nil (P := Try.prog) w 29 5 A n c 0 0 Try.underlying29
  cases A with
  | none =>
    obtain rfl : l = [] := by
      rcases HA.out with h | ⟨_, _, h, _⟩
      · exact h
      · cases h
    obtain rfl : n = 0 := by simpa using hl.symm
    clear hl
    go_enter Try.func63, Try.ntmps63
    go_wp2
    go_ret
    exact ⟨none, 0, 0, rfl, OwnB.nil _ _, Below.refl _ _⟩
  | some a => exact pclone_any w (some a) n c l HL.out hn (fun h => by cases h) HA.out

def zrc (n : Nat) : Array Value := madeCells (Value.cells (.agg #[.int .i64 0, .int .i64 0, .int .i64 0, .slice none 0 0, .int .i64 0])) (n * 5)
theorem run_mkc (a n : Nat) (ha : a ≤ n) (hn : n ≤ 1000000) (w : World) :
    (Instr.makeSlice 67 (.int .i64 (a : Int)) (.int .i64 (n : Int))).run Try.prog w = .ok (.slice (some ⟨w.heap.size, 0, none⟩) a n) (w.alloc (.cells (zrc n) 55)) := by
  obtain ⟨i, hi, hz, hsz, hby⟩ := info_parts info_cl
  have h := run_make (P := Try.prog) w 67 55 i (.agg #[.int .i64 0, .int .i64 0, .int .i64 0, .slice none 0 0, .int .i64 0]) Try.underlying67 hi hz .i64 .i64 a n (by omega) (by omega) (by rw [hby]; omega) (by omega)
  rw [hsz] at h
  simpa [zrc] using h
theorem zrc_size (n : Nat) : (zrc n).size = n * 5 := size_madeCells _ _
theorem OwnCl.made (w : World) (lo base n : Nat) (hb : base ≤ w.heap.size) (hm : n ≤ maxLen) : OwnCl (w.alloc (.cells (zrc n) 55)) lo base (some ⟨w.heap.size, 0, none⟩) 0 n [] :=
  ⟨rfl, [], World.ownsRow_made w (zrc n) n hb hm (zrc_size n), rfl, fun i hi => by simp at hi⟩
theorem range_set3 {w : World} {g : Nat} {c : Cl} {A A' : Option Addr} {n d n' d' : Nat} (h : w.rangeAt g 0 (clC c A n d)) : (w.setCell ⟨g, 3, none⟩ (.slice A' n' d')).rangeAt g 0 (clC c A' n' d') := by
  intro j u hu
  have hj : j < 5 := (List.getElem?_eq_some_iff.1 hu).1
  have h3 := h 3 _ rfl
  have h0 := h 0 _ rfl
  have h1 := h 1 _ rfl
  have h2 := h 2 _ rfl
  have h4 := h 4 _ rfl
  rw [Nat.zero_add] at h0 h1 h2 h3 h4
  rw [Nat.zero_add]
  rcases (by omega : j = 0 ∨ j = 1 ∨ j = 2 ∨ j = 3 ∨ j = 4) with rfl | rfl | rfl | rfl | rfl
  · rw [World.cell?_setCell_other _ _ _ _ (by simp), h0]; exact hu
  · rw [World.cell?_setCell_other _ _ _ _ (by simp), h1]; exact hu
  · rw [World.cell?_setCell_other _ _ _ _ (by simp), h2]; exact hu
  · rw [World.cell?_setCell_same _ _ _ h3]; exact hu
  · rw [World.cell?_setCell_other _ _ _ _ (by simp), h4]; exact hu
/-- Cells in memory of their own. -/
def CopyN (w : World) (n : Nat) (cs : List Cl) (e : Ending) (w' : World) : Prop :=
  ∃ A c, e = .returned (.slice A n c) ∧ OwnCl w' 0 w.heap.size A n c cs ∧ Below w.heap.size w w'
def CopyRel (w : World) (n : Nat) (cs : List Cl) (ov iv : Value) (wr : World) : Prop :=
  ∃ (j : Nat) (A : Option Addr) (c : Nat), j ≤ n ∧ iv = .int .i64 j ∧ ov = .slice A j c ∧ OwnCl wr 0 w.heap.size A j c (cs.take j) ∧ Below w.heap.size w wr

set_option maxHeartbeats 16000000 in
theorem ncopied_any (w : World) (A : Option Addr) (n c : Nat) (cs : List Cl) (hn : cs.length = n) (hnm : n ≤ 100000) (hloc : ∀ d ∈ cs, d.loc.length ≤ 1000000) (hA : RdCl w A cs) (R : Ending → World → Prop) (hR : R = CopyN w n cs) :
    Calls Try.prog 95 #[.slice A n c] w R := by
  have HR := Lib.hid hR; clear hR
  have HA := Lib.hid hA
  have HN := Lib.hid hn
  have HLOC := Lib.hid hloc
  have hmk : ∀ W : World, (Instr.makeSlice 67 (.int .i64 0) (.int .i64 (n : Int))).run Try.prog W = .ok (.slice (some ⟨W.heap.size, 0, none⟩) 0 n) (W.alloc (.cells (zrc n) 55)) := fun W => run_mkc 0 n (Nat.zero_le _) (by omega) W
  obtain ⟨W1, hW1⟩ : ∃ W, W = w.alloc (.cells (zrc n) 55) := ⟨_, rfl⟩
  have HO1 := Lib.hid (show OwnCl W1 0 w.heap.size (some ⟨w.heap.size, 0, none⟩) 0 n [] by rw [hW1]; exact OwnCl.made w _ _ n (Nat.le_refl _) (by unfold maxLen; omega))
  have hb1 : Below w.heap.size w W1 := by rw [hW1]; exact (Below.refl _ _).alloc (Nat.le_refl _) _
  have HW := Lib.hid hW1
  clear hW1 hA hn hloc
  go_enter Try.func95, Try.ntmps95
  go_upto_region 2 with fail
  rw [← HW.out]
  clear HW hmk
  go_wp2_with fail
  go_loopw [3, 11] (CopyRel w n cs) (fun _ i _ => n - (intOf i).toNat)
  case atStart => exact ⟨0, _, n, Nat.zero_le _, rfl, rfl, HO1.out, hb1⟩
  case round =>
    obtain ⟨j, OA, oc, hj, rfl, rfl, hown, hb⟩ := hrel
    have HOW := Lib.hid hown
    clear hown HO1
    by_cases hlt : j < n
    · have hlt' : (j : Int) < (n : Int) := by omega
      have i0 : (0 : Int) ≤ (j : Int) := by omega
      obtain ⟨ab, aoff, hAe, hcell⟩ := (HA.out.keep hb).at (by rw [HN.out]; omega)
      obtain ⟨LA, d, hr0, hd1, hd2, hrd⟩ := hcell j (by rw [HN.out]; exact hlt)
      subst hAe
      have hll : (cl_ cs j).loc.length ≤ 1000000 := HLOC.out _ (by
        rw [show cl_ cs j = cs[j]'(by rw [HN.out]; exact hlt) by simp [cl_, HN.out, hlt]]
        exact List.getElem_mem _)
      have HCE := Lib.hid (show cs.take (j + 1) = cs.take j ++ [cl_ cs j] by
        rw [List.take_add_one, List.getElem?_eq_getElem (by rw [HN.out]; exact hlt)]
        simp [cl_, HN.out, hlt])
      obtain ⟨cl, hcl⟩ : ∃ x, cl_ cs j = x := ⟨_, rfl⟩
      rw [hcl] at hr0 hd1 hrd hll HCE
      have HR0 := Lib.hid hr0
      have HRD := Lib.hid hrd
      obtain ⟨W8, hW8⟩ : ∃ W, W = wr.alloc (.cells #[.int .i64 0, .int .i64 0, .int .i64 0, .slice none 0 0, .int .i64 0] 55) := ⟨_, rfl⟩
      have hb8 : Below wr.heap.size wr W8 := by rw [hW8]; exact (Below.refl _ _).alloc (Nat.le_refl _) _
      have HT8 := Lib.hid (show W8.there wr.heap.size 0 5 by rw [hW8]; exact there_new5 wr _ _ _ _ _ _)
      have HTY8 := Lib.hid (show TyAt W8 wr.heap.size 55 by rw [hW8]; exact TyAt.new wr _ _)
      have HW8 := Lib.hid hW8
      have hl8 : wr.heap.size < W8.heap.size := by rw [hW8]; simp
      have hzr := hb.size
      clear hr0 hrd hcell hcl hW8
      go_upto_region 4 with fail
      iterate 4 go_step
      refine wp_load_clo rfl _ rfl ab (aoff + j * 5) cl LA cl.loc.length d rfl HR0.out ?_
      iterate 3 go_step
      rw [← HW8.out]
      refine wp_store_cl rfl _ _ rfl wr.heap.size cl LA cl.loc.length d rfl rfl HT8.out ?_
      obtain ⟨w9, hw9⟩ : ∃ W, W = W8.setCells wr.heap.size 0 (clC cl LA cl.loc.length d) := ⟨_, rfl⟩
      have hbr9 : Below wr.heap.size wr w9 := by rw [hw9]; exact below_setCellsR hb8 (Nat.le_refl _) _ _
      have HR9 := Lib.hid (show w9.rangeAt wr.heap.size 0 (clC cl LA cl.loc.length d) by rw [hw9]; exact World.rangeAt_setCells_same _ _ _ _ HT8.out)
      have HT9 := Lib.hid (show w9.there wr.heap.size 0 5 by rw [hw9]; exact World.there_setCells HT8.out _ _ _)
      have HTY9 := Lib.hid (show TyAt w9 wr.heap.size 55 by rw [hw9]; exact TyAt.sets _ _ _ _ HTY8.out)
      have hl9 : wr.heap.size < w9.heap.size := by rw [hw9, size_setCells]; exact hl8
      rw [← hw9]
      clear hw9 HT8 HTY8 HW8 hb8 hl8
      have m3 := HR9.out 3 _ rfl
      rw [Nat.zero_add] at m3
      go_wp2_with fail
      refine (pclone2_any _ LA cl.loc.length d cl.loc rfl hll (HRD.out.keep hbr9)).mono ?_
      rintro e w10 ⟨A10, n10, c10, rfl, hown10, hb10⟩
      have hn10 : cl.loc.length = n10 := hown10.len
      subst hn10
      have HO10 := Lib.hid hown10
      have hca := hown10.cap
      have HR10 := Lib.hid (rangeKept HR9.out hb10)
      have HTY10 := Lib.hid (HTY9.out.keepB hb10 hl9)
      have hf3 := (there_keepR HT9.out hb10 hl9 3 (by decide)).2
      rw [Nat.zero_add] at hf3
      have m3' := HR10.out 3 _ rfl
      rw [Nat.zero_add] at m3'
      have hbr10 : Below wr.heap.size wr w10 := hbr9.trans (hb10.mono (Nat.le_of_lt hl9))
      obtain ⟨W11, hW11⟩ : ∃ W, W = w10.setCell ⟨wr.heap.size, 3, none⟩ (.slice A10 cl.loc.length c10) := ⟨_, rfl⟩
      have HR11 := Lib.hid (show W11.rangeAt wr.heap.size 0 (clC cl A10 cl.loc.length c10) by rw [hW11]; exact range_set3 HR10.out)
      have HO11 := Lib.hid (show OwnB W11 w9.heap.size A10 cl.loc.length c10 cl.loc by rw [hW11]; exact ownsRow_ty HO10.out HTY10.out (by decide) (fun i hi _ => heap_setG_ne _ _ _ hi))
      have hbr11 : Below wr.heap.size wr W11 := by rw [hW11]; exact hbr10.setCell (Nat.le_refl _) _
      have HW11 := Lib.hid hW11
      clear hW11 hown10 m3 HR9 HT9 HTY9 HR10 HTY10 HO10 hb10
      simp only []
      go_upto_region 6 with fail
      rw [← HW11.out]
      clear HW11 m3' hf3
      iterate 4 go_step
      refine wp_load_clg5 rfl _ rfl wr.heap.size cl A10 cl.loc.length c10 rfl HR11.out ?_
      iterate 3 go_step
      have hba : Below W11.heap.size W11 (W11.alloc (.cells #[.int .i64 cl.key, .int .i64 cl.child, .int .i64 cl.total, .slice A10 cl.loc.length c10, .int .i64 cl.spill] 55)) := (Below.refl _ _).alloc (Nat.le_refl _) _
      have hz11 := hbr11.size
      refine wp_append_cl rfl (.tmp 19) (.tmp 21) rfl 0 w.heap.size (Nat.zero_le _) OA j oc (cs.take j) rfl ((HOW.out.keep hbr11).keep hba) _ 1 1 [cl] rfl rfl (.inr ⟨_, 0, clC cl A10 cl.loc.length c10, rfl, fun t u hu => by
        rw [Nat.zero_add, heap_cell (heap_alloc_new W11 _)]
        simpa [clC] using hu, CellVals.one hca.1 hca.2 (.inr ⟨_, HO11.out.keep hba⟩)⟩) (by omega) (by simp; omega) ?_
      intro A12 c12 w12 hown12 hb12
      rw [← HCE.out] at hown12
      have HO12 := Lib.hid hown12
      have hb12' : Below w.heap.size w w12 := hb.trans ((hbr11.mono hzr).trans ((hba.mono (by omega)).trans hb12))
      clear hown12 hba hb12 HR11 HO11 HOW
      go_wp2_with fail
      go_roundw
      case rel => exact ⟨j + 1, A12, c12, by omega, by go_num, rfl, HO12.out, hb12'⟩
      case measure => simp [intOf]; omega
    · obtain rfl : j = n := by omega
      go_wp2_with fail
      rw [HR.out]
      exact ⟨OA, oc, rfl, by have := HOW.out; rwa [List.take_of_length_le (by rw [HN.out]; exact Nat.le_refl _)] at this, hb⟩
end
section
open Go.RowKit
set_option maxRecDepth 100000
set_option linter.unusedVariables false
set_option linter.unusedSimpArgs false
set_option linter.unnecessarySimpa false
def sepOf (a : Nd) (s : Cl) : Cl := { s with child := a.right }
def midJ (a : Nd) (s : Cl) : List Cl := if a.kind = 1 then [] else [sepOf a s]
def joinM (a : Nd) (s : Cl) (b : Nd) : Nd := ⟨a.kind, b.right, a.cs ++ midJ a s ++ b.cs⟩
def joinOk (a : Nd) (s : Cl) (b : Nd) : Prop := (mayN a ∧ mayN b ∧ a.kind = b.kind) ∧ (a.kind ≠ 1 → goodK a.kind (sepOf a s))
instance (a : Nd) (s : Cl) (b : Nd) : Decidable (joinOk a s b) := by unfold joinOk; infer_instance
def JoinN (w : World) (a : Nd) (s : Cl) (b : Nd) (e : Ending) (w' : World) : Prop :=
  Below w.heap.size w w' ∧ ((¬ joinOk a s b ∧ e = .returned (.tuple #[zeroN.val none 0, .int .i64 1])) ∨ (joinOk a s b ∧ ∃ A c, e = .returned (.tuple #[(joinM a s b).val A c, .int .i64 0]) ∧ OwnCl w' w.heap.size w.heap.size A (joinM a s b).cs.length c (joinM a s b).cs))
/-- The arguments, boxed. -/
structure Jn (w W : World) (a : Nd) (A : Option Addr) (ca : Nat) (s : Cl) (S : Option Addr) (d : Nat) (b : Nd) (B : Option Addr) (cb : Nat) : Prop where
  x : NdAt W w.heap.size a A ca
  sg : W.rangeAt (w.heap.size + 1) 0 (clC s S s.loc.length d)
  st : W.there (w.heap.size + 1) 0 5
  sty : TyAt W (w.heap.size + 1) 55
  y : NdAt W (w.heap.size + 2) b B cb
  o : W.there (w.heap.size + 3) 0 3
  oty : TyAt W (w.heap.size + 3) 69
  xc0 : RdCl w A a.cs
  sr0 : Rd w S s.loc
  yc0 : RdCl w B b.cs
  bel : Below w.heap.size w W
  sz : w.heap.size + 4 ≤ W.heap.size
theorem there_same {w w' : World} {g n : Nat} (e : w'.heap[g]? = w.heap[g]?) (h : w.there g 0 n) : w'.there g 0 n := fun j hj => by
  obtain ⟨h1, h2⟩ := h j hj
  exact ⟨by rw [← h1]; simp [World.cell?, e], by rw [← h2]; simp [World.frozen?, e]⟩
section
variable {w W W' : World} {a : Nd} {A : Option Addr} {ca : Nat} {s : Cl} {S : Option Addr} {d : Nat} {b : Nd} {B : Option Addr} {cb : Nat}
theorem Jn.xc (h : Jn w W a A ca s S d b B cb) : RdCl W A a.cs := h.xc0.keep h.bel
theorem Jn.sr (h : Jn w W a A ca s S d b B cb) : Rd W S s.loc := h.sr0.keep h.bel
theorem Jn.yc (h : Jn w W a A ca s S d b B cb) : RdCl W B b.cs := h.yc0.keep h.bel
theorem Jn.keepB (h : Jn w W a A ca s S d b B cb) (hb : Below (w.heap.size + 4) W W') : Jn w W' a A ca s S d b B cb := by
  have hz := h.sz
  have hz2 := hb.size
  exact ⟨h.x.keepB hb (by omega), rangeKeep h.sg hb (by omega), there_keepR h.st hb (by omega), h.sty.keepB hb (by omega), h.y.keepB hb (by omega), there_keepR h.o hb (by omega), h.oty.keepB hb (by omega), h.xc0, h.sr0, h.yc0, h.bel.trans (hb.mono (by omega)), by omega⟩
theorem Jn.keep (h : Jn w W a A ca s S d b B cb) (hb : Below W.heap.size W W') : Jn w W' a A ca s S d b B cb := h.keepB (hb.mono h.sz)
theorem Jn.setS (h : Jn w W a A ca s S d b B cb) (r : Int) : Jn w (W.setCell ⟨w.heap.size + 1, 1, none⟩ (.int .i64 r)) a A ca { s with child := r } S d b B cb := by
  have e : ∀ i, i ≠ w.heap.size + 1 → (W.setCell ⟨w.heap.size + 1, 1, none⟩ (.int .i64 r)).heap[i]? = W.heap[i]? := fun i hi => heap_setG_ne _ _ _ hi
  have c1 := h.sg 1 _ rfl
  have c0 := h.sg 0 _ rfl
  have c2 := h.sg 2 _ rfl
  have c3 := h.sg 3 _ rfl
  have c4 := h.sg 4 _ rfl
  rw [Nat.zero_add] at c0 c1 c2 c3 c4
  refine ⟨fun j u hu => ?_, fun j u hu => ?_, there_setG h.st _ _, h.sty.set _ _, fun j u hu => ?_, there_setG h.o _ _, h.oty.set _ _, h.xc0, h.sr0, h.yc0, h.bel.setCell (by show w.heap.size ≤ w.heap.size + 1; omega) _, by rw [size_setG]; exact h.sz⟩
  · rw [← h.x j u hu]; simp [World.cell?, e w.heap.size (by omega)]
  · have hj : j < 5 := (List.getElem?_eq_some_iff.1 hu).1
    rw [Nat.zero_add]
    rcases (by omega : j = 0 ∨ j = 1 ∨ j = 2 ∨ j = 3 ∨ j = 4) with rfl | rfl | rfl | rfl | rfl
    · rw [World.cell?_setCell_other _ _ _ _ (by simp), c0]; exact hu
    · rw [World.cell?_setCell_same _ _ _ c1]; exact hu
    · rw [World.cell?_setCell_other _ _ _ _ (by simp), c2]; exact hu
    · rw [World.cell?_setCell_other _ _ _ _ (by simp), c3]; exact hu
    · rw [World.cell?_setCell_other _ _ _ _ (by simp), c4]; exact hu
  · rw [← h.y j u hu]; simp [World.cell?, e (w.heap.size + 2) (by omega)]
theorem Jn.made (hA : RdCl w A a.cs) (hS : Rd w S s.loc) (hB : RdCl w B b.cs) {t : TypeId}
    (hW : W = (((w.alloc (.cells #[.int .i64 a.kind, .slice A a.cs.length ca, .int .i64 a.right] t)).alloc (.cells #[.int .i64 s.key, .int .i64 s.child, .int .i64 s.total, .slice S s.loc.length d, .int .i64 s.spill] 55)).alloc (.cells #[.int .i64 b.kind, .slice B b.cs.length cb, .int .i64 b.right] t)).alloc (.cells #[.int .i64 0, .slice none 0 0, .int .i64 0] 69)) : Jn w W a A ca s S d b B cb := by
  subst hW
  obtain ⟨W1, h1⟩ : ∃ W, W = w.alloc (.cells #[.int .i64 a.kind, .slice A a.cs.length ca, .int .i64 a.right] t) := ⟨_, rfl⟩
  rw [← h1]
  have e1 : W1.heap.size = w.heap.size + 1 := by rw [h1]; simp
  have b1 : Below w.heap.size w W1 := by rw [h1]; exact (Below.refl _ _).alloc (Nat.le_refl _) _
  have x1 : NdAt W1 w.heap.size a A ca := by rw [h1]; exact NdAt.made w a A ca _
  obtain ⟨W2, h2⟩ : ∃ W, W = W1.alloc (.cells #[.int .i64 s.key, .int .i64 s.child, .int .i64 s.total, .slice S s.loc.length d, .int .i64 s.spill] 55) := ⟨_, rfl⟩
  rw [← h2]
  have e2 : W2.heap.size = w.heap.size + 2 := by rw [h2]; simp [e1]
  have b2 : Below W1.heap.size W1 W2 := by rw [h2]; exact (Below.refl _ _).alloc (Nat.le_refl _) _
  have s2 : W2.rangeAt (w.heap.size + 1) 0 (clC s S s.loc.length d) := fun j u hu => by
    rw [h2, Nat.zero_add, ← e1, heap_cell (heap_alloc_new W1 _)]
    simpa [clC] using hu
  have t2 : W2.there (w.heap.size + 1) 0 5 := by rw [h2, ← e1]; exact there_new5 W1 _ _ _ _ _ _
  have y2 : TyAt W2 (w.heap.size + 1) 55 := by rw [h2, ← e1]; exact TyAt.new W1 _ _
  obtain ⟨W3, h3⟩ : ∃ W, W = W2.alloc (.cells #[.int .i64 b.kind, .slice B b.cs.length cb, .int .i64 b.right] t) := ⟨_, rfl⟩
  rw [← h3]
  have e3 : W3.heap.size = w.heap.size + 3 := by rw [h3]; simp [e2]
  have b3 : Below W2.heap.size W2 W3 := by rw [h3]; exact (Below.refl _ _).alloc (Nat.le_refl _) _
  have y3 : NdAt W3 (w.heap.size + 2) b B cb := by rw [h3, ← e2]; exact NdAt.made W2 b B cb _
  obtain ⟨W4, h4⟩ : ∃ W, W = W3.alloc (.cells #[.int .i64 0, .slice none 0 0, .int .i64 0] 69) := ⟨_, rfl⟩
  rw [← h4]
  have e4 : W4.heap.size = w.heap.size + 4 := by rw [h4]; simp [e3]
  have b4 : Below W3.heap.size W3 W4 := by rw [h4]; exact (Below.refl _ _).alloc (Nat.le_refl _) _
  have o4 : W4.there (w.heap.size + 3) 0 3 := by rw [h4, ← e3]; exact there_new3 W3 _ _ _ _
  have y4 : TyAt W4 (w.heap.size + 3) 69 := by rw [h4, ← e3]; exact TyAt.new W3 _ _
  have b24 : Below W2.heap.size W2 W4 := b3.trans (b4.mono (by omega))
  have b14 : Below W1.heap.size W1 W4 := b2.trans (b24.mono (by omega))
  have b04 : Below w.heap.size w W4 := b1.trans (b14.mono (by omega))
  exact ⟨x1.keep b14, rangeKept s2 b24, there_keepR t2 b24 (by omega), y2.keepB b24 (by omega), y3.keep b4, o4, y4, hA, hS, hB, b04, by omega⟩
end
/-- What is joined so far, but for its cells. -/
structure Ou (w W : World) (g : Nat) (m : Nd) (A : Option Addr) (c : Nat) : Prop where
  at_ : NdAt W g m A c
  there : W.there g 0 3
  ty : TyAt W g 69
  lo : w.heap.size + 4 ≤ g
  hi : g < W.heap.size
section
variable {w W W' : World} {g : Nat} {m : Nd} {A : Option Addr} {c : Nat}
theorem Ou.same (h : Ou w W g m A c) (e : W'.heap[g]? = W.heap[g]?) : Ou w W' g m A c := by
  refine ⟨fun j u hu => by rw [← h.at_ j u hu]; simp [World.cell?, e], there_same e h.there, ?_, h.lo, ?_⟩
  · obtain ⟨cur, fr, ht⟩ := h.ty
    exact ⟨cur, fr, e.trans ht⟩
  · obtain ⟨cur, fr, ht⟩ := h.ty
    exact (Array.getElem?_eq_some_iff.1 (e.trans ht)).1
theorem Ou.keep (h : Ou w W g m A c) (hb : Below W.heap.size W W') : Ou w W' g m A c := h.same (hb.block g h.hi)
theorem Ou.setCs (h : Ou w W g m A c) (cs' : List Cl) (A' : Option Addr) (c' : Nat) : Ou w (W.setCell ⟨g, 1, none⟩ (.slice A' cs'.length c')) g ⟨m.kind, m.right, cs'⟩ A' c' :=
  ⟨h.at_.setCs cs' c', there_setG h.there _ _, h.ty.set _ _, h.lo, by rw [size_setG]; exact h.hi⟩
theorem Ou.made (w W0 : World) (h0 : w.heap.size + 4 ≤ W0.heap.size) (m : Nd) (A : Option Addr) (c : Nat) {W1 : World} (hb : Below (W0.heap.size + 1) (W0.alloc (.cells #[.int .i64 0, .slice none 0 0, .int .i64 0] 69)) W1) : Ou w (W1.setCells W0.heap.size 0 (ndC m A c)) W0.heap.size m A c := by
  have ht : W1.there W0.heap.size 0 3 := there_keepR (there_new3 W0 _ _ _ _) hb (by omega)
  have hy : TyAt W1 W0.heap.size 69 := (TyAt.new W0 _ _).keepB hb (by omega)
  have hz := hb.size
  simp at hz
  exact ⟨NdAt.stored ht m A c, World.there_setCells ht _ _ _, TyAt.sets _ _ _ _ hy, h0, by rw [size_setCells]; omega⟩
end
set_option maxHeartbeats 64000000 in
theorem njoin_any (w : World) (a : Nd) (A : Option Addr) (ca : Nat) (s : Cl) (S : Option Addr) (d : Nat) (b : Nd) (B : Option Addr) (cb : Nat)
    (ha : fewN a) (hb : fewN b) (hs : s.loc.length ≤ 16384) (oa : NdOk a) (ob : NdOk b) (os : ClOk s) (hd : s.loc.length ≤ d) (hdm : d ≤ maxLen) (hA : RdCl w A a.cs) (hS : Rd w S s.loc) (hB : RdCl w B b.cs) (R : Ending → World → Prop) (hR : R = JoinN w a s b) :
    Calls Try.prog 47 #[a.val A ca, s.val S s.loc.length d, b.val B cb] w R := by
  have HR := Lib.hid hR; clear hR
  have HAF := Lib.hid ha
  have HBF := Lib.hid hb
  have HAO := Lib.hid oa
  have HBO := Lib.hid ob
  have HSO := Lib.hid os
  obtain ⟨W0, hW0⟩ : ∃ W, W = (((w.alloc (.cells #[.int .i64 a.kind, .slice A a.cs.length ca, .int .i64 a.right] 69)).alloc (.cells #[.int .i64 s.key, .int .i64 s.child, .int .i64 s.total, .slice S s.loc.length d, .int .i64 s.spill] 55)).alloc (.cells #[.int .i64 b.kind, .slice B b.cs.length cb, .int .i64 b.right] 69)).alloc (.cells #[.int .i64 0, .slice none 0 0, .int .i64 0] 69) := ⟨_, rfl⟩
  have HJ0 := Lib.hid (Jn.made hA hS hB hW0)
  have HW := Lib.hid hW0
  clear hW0 ha hb oa ob os hA hS hB
  obtain ⟨x0, x1, x2⟩ := HJ0.out.x.all
  obtain ⟨y0, y1, y2⟩ := HJ0.out.y.all
  unfold Nd.val Cl.val
  go_enter Try.func47, Try.ntmps47
  go_upto_region 1 with fail
  rw [← HW.out]
  clear HW
  have hz0 := HJ0.out.sz
  go_step
  refine wp_load_nd rfl _ rfl w.heap.size a A ca rfl HJ0.out.x ?_
  go_wp2_with fail
  refine (right_any _ a A ca (by have := HAF.out.1; omega) HAO.out (fun d hd => by have := HAF.out.2 d hd; omega) HJ0.out.xc _ rfl).mono ?_
  rintro e w1 ⟨rfl, hb1⟩
  have HJ1 := Lib.hid (HJ0.out.keep hb1)
  by_cases hma : mayN a
  case neg =>
    have HF := Lib.hid (show ¬ joinOk a s b from fun h => hma h.1.1)
    rw [decide_eq_false hma]
    clear hma x0 x1 x2 y0 y1 y2
    go_upto_region 2 with fail
    iterate 4 go_step
    refine wp_store_nd rfl _ _ rfl (w.heap.size + 3) zeroN none 0 rfl rfl HJ1.out.o ?_
    repeat go_step
    refine ret_nd rfl rfl (NdAt.stored HJ1.out.o zeroN none 0) rfl ?_
    rw [HR.out]
    exact ⟨below_setCellsR HJ1.out.bel (by omega) _ _, .inl ⟨HF.out, rfl⟩⟩
  rw [decide_eq_true hma]
  simp only []
  iterate 7 go_step
  refine wp_load_ndg rfl _ rfl (w.heap.size + 2) b B cb rfl HJ1.out.y ?_
  go_wp2_with fail
  refine (right_any _ b B cb (by have := HBF.out.1; omega) HBO.out (fun d hd => by have := HBF.out.2 d hd; omega) HJ1.out.yc _ rfl).mono ?_
  rintro e w2 ⟨rfl, hb2⟩
  have HJ2 := Lib.hid (HJ1.out.keep hb2)
  have hz2 := HJ2.out.sz
  clear hb1 hb2 HJ1 HJ0 x0 x1 x2 y0 y1 y2
  obtain ⟨x0, x1, x2⟩ := HJ2.out.x.all
  obtain ⟨y0, y1, y2⟩ := HJ2.out.y.all
  by_cases hmb : mayN b
  case neg =>
    have HF := Lib.hid (show ¬ joinOk a s b from fun h => hmb h.1.2.1)
    rw [decide_eq_false hmb]
    clear hmb
    go_upto_region 2 with fail
    iterate 4 go_step
    refine wp_store_nd rfl _ _ rfl (w.heap.size + 3) zeroN none 0 rfl rfl HJ2.out.o ?_
    repeat go_step
    refine ret_nd rfl rfl (NdAt.stored HJ2.out.o zeroN none 0) rfl ?_
    rw [HR.out]
    exact ⟨below_setCellsR HJ2.out.bel (by omega) _ _, .inl ⟨HF.out, rfl⟩⟩
  rw [decide_eq_true hmb]
  by_cases hk : a.kind = b.kind
  case neg =>
    have HF := Lib.hid (show ¬ joinOk a s b from fun h => hk h.1.2.2)
    have q1 : (a.kind != b.kind) = true := by simp [hk]
    clear hk
    go_upto_region 2 with fail
    iterate 4 go_step
    refine wp_store_nd rfl _ _ rfl (w.heap.size + 3) zeroN none 0 rfl rfl HJ2.out.o ?_
    repeat go_step
    refine ret_nd rfl rfl (NdAt.stored HJ2.out.o zeroN none 0) rfl ?_
    rw [HR.out]
    exact ⟨below_setCellsR HJ2.out.bel (by omega) _ _, .inl ⟨HF.out, rfl⟩⟩
  have HMAY := Lib.hid (show mayN a ∧ mayN b ∧ a.kind = b.kind from ⟨hma, hmb, hk⟩)
  have q1 : (a.kind != b.kind) = false := by simp [hk]
  clear hk hma hmb
  clear x0 x1 x2 y0 y1 y2
  have F0 : ∀ W : World, Jn w W a A ca s S d b B cb → W.cell? ⟨w.heap.size, 0, none⟩ = some (.int .i64 a.kind) := fun W hW => hW.x.all.1
  have F1 : ∀ W : World, Jn w W a A ca s S d b B cb → W.cell? ⟨w.heap.size, 1, none⟩ = some (.slice A a.cs.length ca) := fun W hW => hW.x.all.2.1
  have F2 : ∀ W : World, Jn w W a A ca s S d b B cb → W.cell? ⟨w.heap.size + 2, 2, none⟩ = some (.int .i64 b.right) := fun W hW => hW.y.all.2.2
  have F3 : True := trivial
  obtain ⟨x0, x1, x2⟩ := HJ2.out.x.all
  obtain ⟨y0, y1, y2⟩ := HJ2.out.y.all
  go_upto_region 3 with fail
  clear x0 x1 x2 y0 y1 y2
  refine wp_region_held_drew (S := (fun W => Jn w W a A ca s S d b B cb)) (by kernel_rfl) ?_ (fun hHeld => ?_)
  · exact HJ2.out.keep (Below.refl _ w2).drew
  refine' wpAnyH_take (i := 0) (oi := _) (v := _) rfl (by kernel_rfl) (by kernel_rfl) (by kernel_rfl) (fun _ _ _ h => h) (Or.inl ⟨by rfl, ?hz1⟩) (by assumption) ?rezt1
  case hz1 => (intro w' hSw; (try dsimp only at hSw); go_simp; try with_reducible rfl)
  try simp only [Act.put, List.setIfInBounds_toArray, List.set_cons_zero, List.set_cons_succ, List.getElem_toArray, List.getElem_cons_zero, List.getElem_cons_succ]
  refine' wpAnyH_take (i := 1) (oi := _) (v := _) rfl (by kernel_rfl) (by kernel_rfl) (by kernel_rfl) (fun _ _ _ h => h) (Or.inl ⟨by rfl, ?hz2⟩) (by assumption) ?rezt2
  case hz2 => (intro w' hSw; (try dsimp only at hSw); go_simp; try with_reducible rfl)
  try simp only [Act.put, List.setIfInBounds_toArray, List.set_cons_zero, List.set_cons_succ, List.getElem_toArray, List.getElem_cons_zero, List.getElem_cons_succ]
  refine' wpAnyH_take (i := 2) (oi := _) (v := _) rfl (by kernel_rfl) (by kernel_rfl) (by kernel_rfl) (fun _ _ _ h => h) (Or.inl ⟨by rfl, ?hz3⟩) (by assumption) ?rezt3
  case hz3 => (intro w' hSw; (try dsimp only at hSw); go_simp; try with_reducible rfl)
  try simp only [Act.put, List.setIfInBounds_toArray, List.set_cons_zero, List.set_cons_succ, List.getElem_toArray, List.getElem_cons_zero, List.getElem_cons_succ]
  refine' wpAnyH_take (i := 3) (oi := _) (v := _) rfl (by kernel_rfl) (by kernel_rfl) (by kernel_rfl) (fun _ _ _ h => h) (Or.inl ⟨by rfl, ?hz4⟩) (by assumption) ?rezt4
  case hz4 => (intro w' hSw; (try dsimp only at hSw); go_simp; try with_reducible rfl)
  try simp only [Act.put, List.setIfInBounds_toArray, List.set_cons_zero, List.set_cons_succ, List.getElem_toArray, List.getElem_cons_zero, List.getElem_cons_succ]
  refine' wpAnyH_take (i := 5) (oi := _) (v := _) rfl (by kernel_rfl) (by kernel_rfl) (by kernel_rfl) (fun _ _ _ h => h) (Or.inl ⟨by rfl, ?hz5⟩) (by assumption) ?rezt5
  case hz5 => (intro w' hSw; (try dsimp only at hSw); go_simp; try with_reducible rfl)
  try simp only [Act.put, List.setIfInBounds_toArray, List.set_cons_zero, List.set_cons_succ, List.getElem_toArray, List.getElem_cons_zero, List.getElem_cons_succ]
  refine' wpAnyH_take (i := 6) (oi := _) (v := _) rfl (by kernel_rfl) (by kernel_rfl) (by kernel_rfl) (fun _ _ _ h => h) (Or.inl ⟨by rfl, ?hz6⟩) (by assumption) ?rezt6
  case hz6 => (intro w' hSw; (try dsimp only at hSw); go_simp; try with_reducible rfl)
  try simp only [Act.put, List.setIfInBounds_toArray, List.set_cons_zero, List.set_cons_succ, List.getElem_toArray, List.getElem_cons_zero, List.getElem_cons_succ]
  refine wpAnyH_ready (rs := [4, 8]) (by kernel_rfl) (by simp) ?_
  refine AllReadyH.cons (o := _) rfl (fun K hK => ?_) (AllReadyH.cons (o := _) rfl (fun K hK => ?_) AllReadyH.nil)
  · have HJX := Lib.hid (HJ2.out.keep (Below.refl _ w2).drew)
    go_simp
    have hj := HJX.out
    go_at_call 95
    refine (ncopied_any _ A a.cs.length ca a.cs rfl (by have := HAF.out.1; omega) (fun d hd => by have := HAF.out.2 d hd; omega) hj.xc _ rfl).mono ?_
    rintro e w3 ⟨A3, c3, rfl, hown3, hb3⟩
    have HJ3 := Lib.hid (hj.keep hb3)
    have HO3 := Lib.hid hown3
    clear hj hown3
    refine hK.out _ _ ?_ (fun hHeld => ?_)
    · exact HJ3.out
    clear hK K
    try simp only [Act.put, List.setIfInBounds_toArray, List.set_cons_zero, List.set_cons_succ, List.getElem_toArray, List.getElem_cons_zero, List.getElem_cons_succ]
    have hzx := HJX.out.sz
    have hz3 := HJ3.out.sz
    refine' wpAnyH_take (i := 7) (oi := _) (v := _) rfl (by kernel_rfl) (by kernel_rfl) (by kernel_rfl) (fun _ _ _ h => h) (Or.inl ⟨by rfl, ?hz7⟩) (by assumption) ?rezt7
    case hz7 => (intro w' hSw; (try dsimp only at hSw); go_simp; try with_reducible rfl)
    try simp only [Act.put, List.setIfInBounds_toArray, List.set_cons_zero, List.set_cons_succ, List.getElem_toArray, List.getElem_cons_zero, List.getElem_cons_succ]
    refine wpAnyH_ready (rs := [8]) (by kernel_rfl) (by simp) ?_
    refine AllReadyH.cons (o := _) rfl (fun K hK => ?_) AllReadyH.nil
    go_simp
    refine hK.out _ _ ?_ (fun hHeld => ?_)
    · exact HJ3.out.keep ((Below.refl _ _).alloc (Nat.le_refl _) _)
    clear hK K
    try simp only [Act.put, List.setIfInBounds_toArray, List.set_cons_zero, List.set_cons_succ, List.getElem_toArray, List.getElem_cons_zero, List.getElem_cons_succ]
    refine wpAnyH_ready (rs := [9]) (by kernel_rfl) (by simp) ?_
    refine AllReadyH.cons (o := _) rfl (fun K hK => ?_) AllReadyH.nil
    refine step_store_nd rfl _ _ rfl w3.heap.size ⟨a.kind, b.right, a.cs⟩ A3 c3 rfl rfl (there_new3 w3 _ _ _ _) ?_
    refine hK.out _ _ ?_ (fun hHeld => ?_)
    · exact HJ3.out.keep (below_setCellsR ((Below.refl _ _).alloc (Nat.le_refl _) _) (Nat.le_refl _) _ _)
    clear hK K
    try simp only [Act.put, List.setIfInBounds_toArray, List.set_cons_zero, List.set_cons_succ, List.getElem_toArray, List.getElem_cons_zero, List.getElem_cons_succ]
    refine wpAnyH_done (by kernel_rfl) ?_ _
    obtain ⟨w4, hw4⟩ : ∃ W, W = (w3.alloc (.cells #[.int .i64 0, .slice none 0 0, .int .i64 0] 69)).setCells w3.heap.size 0 (ndC ⟨a.kind, b.right, a.cs⟩ A3 c3) := ⟨_, rfl⟩
    have HJ4 := Lib.hid (show Jn w w4 a A ca s S d b B cb by rw [hw4]; exact HJ3.out.keep (below_setCellsR ((Below.refl _ _).alloc (Nat.le_refl _) _) (Nat.le_refl _) _ _))
    have HO4 := Lib.hid (show Ou w w4 w3.heap.size ⟨a.kind, b.right, a.cs⟩ A3 c3 by rw [hw4]; exact Ou.made w w3 hz3 _ A3 c3 (Below.refl _ _))
    have HC4 := Lib.hid (show OwnCl w4 w.heap.size (w.heap.size + 4) A3 a.cs.length c3 a.cs by
      rw [hw4]
      exact (((HO3.out.mono hzx).lift (Nat.zero_le _)).keep ((Below.refl _ w3).alloc (Nat.le_refl _) (.cells #[.int .i64 0, .slice none 0 0, .int .i64 0] 69))).ty (TyAt.new w3 _ _) (by decide) (by decide) (by omega) (fun i hi _ => heap_setCells_ne _ _ _ _ hi))
    rw [← hw4]
    obtain ⟨g, hg⟩ : ∃ x, w3.heap.size = x := ⟨_, rfl⟩
    rw [hg] at HO4 ⊢
    clear hg hw4 HO3 HJ3 hb3 hzx hz3 HJX F0 F1 F2 F3
    have hz4 := HJ4.out.sz
    obtain ⟨x0, x1, x2⟩ := HJ4.out.x.all
    by_cases hk1 : a.kind = 1
    · have q2 : (a.kind != 1) = false := by simp [hk1]
      have HK1 := Lib.hid hk1
      clear hk1
      have HJ := HJ4
      have HO := HO4
      have HC := HC4
      have HJO := Lib.hid (And.intro HJ.out HO.out)
      have F0 : ∀ W : World, Jn w W a A ca (s) S d b B cb ∧ Ou w W g ⟨a.kind, b.right, a.cs⟩ A3 c3 → W.cell? ⟨g, 1, none⟩ = some (.slice A3 (a.cs).length c3) := fun W hW => hW.2.at_.all.2.1
      have F1 : ∀ W : World, Jn w W a A ca (s) S d b B cb ∧ Ou w W g ⟨a.kind, b.right, a.cs⟩ A3 c3 → W.cell? ⟨w.heap.size + 2, 1, none⟩ = some (.slice B b.cs.length cb) := fun W hW => hW.1.y.all.2.1
      go_upto_region 9 with fail
      refine wp_region_z (z := 7) (S := (fun W => Jn w W a A ca (s) S d b B cb ∧ Ou w W g ⟨a.kind, b.right, a.cs⟩ A3 c3)) (by kernel_rfl) ?_ (fun hHeld => ?_)
      · exact ⟨HJO.out.1.keep (Below.refl _ _).drew, HJO.out.2.keep (Below.refl _ _).drew⟩
      refine' wpAnyZ_take (i := 0) (oi := _) (v := _) rfl (by kernel_rfl) (by kernel_rfl) (by kernel_rfl) (by kernel_rfl) (fun _ _ _ h => h) (Or.inl ⟨by rfl, ?hw1⟩) (by assumption) ?rezw1
      case hw1 => (intro w' hSw; (try dsimp only at hSw); go_simp; try with_reducible rfl)
      try simp only [Act.put, List.setIfInBounds_toArray, List.set_cons_zero, List.set_cons_succ, List.getElem_toArray, List.getElem_cons_zero, List.getElem_cons_succ]
      refine' wpAnyZ_take (i := 1) (oi := _) (v := _) rfl (by kernel_rfl) (by kernel_rfl) (by kernel_rfl) (by kernel_rfl) (fun _ _ _ h => h) (Or.inl ⟨by rfl, ?hw2⟩) (by assumption) ?rezw2
      case hw2 => (intro w' hSw; (try dsimp only at hSw); go_simp; try with_reducible rfl)
      try simp only [Act.put, List.setIfInBounds_toArray, List.set_cons_zero, List.set_cons_succ, List.getElem_toArray, List.getElem_cons_zero, List.getElem_cons_succ]
      refine' wpAnyZ_take (i := 2) (oi := _) (v := _) rfl (by kernel_rfl) (by kernel_rfl) (by kernel_rfl) (by kernel_rfl) (fun _ _ _ h => h) (Or.inl ⟨by rfl, ?hw3⟩) (by assumption) ?rezw3
      case hw3 => (intro w' hSw; (try dsimp only at hSw); go_simp; try with_reducible rfl)
      try simp only [Act.put, List.setIfInBounds_toArray, List.set_cons_zero, List.set_cons_succ, List.getElem_toArray, List.getElem_cons_zero, List.getElem_cons_succ]
      refine' wpAnyZ_take (i := 3) (oi := _) (v := _) rfl (by kernel_rfl) (by kernel_rfl) (by kernel_rfl) (by kernel_rfl) (fun _ _ _ h => h) (Or.inl ⟨by rfl, ?hw4⟩) (by assumption) ?rezw4
      case hw4 => (intro w' hSw; (try dsimp only at hSw); go_simp; try with_reducible rfl)
      try simp only [Act.put, List.setIfInBounds_toArray, List.set_cons_zero, List.set_cons_succ, List.getElem_toArray, List.getElem_cons_zero, List.getElem_cons_succ]
      refine wpAnyZ_one (i := 4) (o := _) (by kernel_rfl) rfl (fun K hK => ?_)
      go_simp
      have hj := HJO.out.1.keep (Below.refl _ w4).drew
      have ho := HJO.out.2.keep (Below.refl _ w4).drew
      have hc := HC.out.keep (Below.refl _ w4).drew
      have hzz := hj.sz
      go_at_call 95
      refine (ncopied_any _ B b.cs.length cb b.cs rfl (by have := HBF.out.1; omega) (fun d hd => by have := HBF.out.2 d hd; omega) hj.yc _ rfl).mono ?_
      rintro e w8 ⟨B8, c8, rfl, hown8, hb8⟩
      have HJ8 := Lib.hid (hj.keep hb8)
      have HO8 := Lib.hid (ho.keep hb8)
      have HC8 := Lib.hid (hc.keep hb8)
      have HS8 := Lib.hid ((hown8.lift (Nat.zero_le w.heap.size)).src)
      have hz8 := HJ8.out.sz
      have hbl8 := HBF.out.1
      have hal8 := HAF.out.1
      clear hj ho hc hown8 hb8 hzz
      refine hK.out _ _ ?_ (fun hHeld => ?_)
      · exact ⟨HJ8.out, HO8.out⟩
      clear hK K
      try simp only [Act.put, List.setIfInBounds_toArray, List.set_cons_zero, List.set_cons_succ, List.getElem_toArray, List.getElem_cons_zero, List.getElem_cons_succ]
      refine wpAnyZ_one (i := 5) (o := _) (by kernel_rfl) rfl (fun K hK => ?_)
      refine step_append_cl2 rfl (.tmp 53) (.tmp 56) rfl w.heap.size (w.heap.size + 4) (by omega) _ _ _ _ rfl HC8.out _ _ _ _ rfl rfl HS8.out (by omega) (by omega) ?_
      intro A9 c9 w9 hown9 hb9 hty9
      have HJ9 := Lib.hid (HJ8.out.keepB hb9)
      have HO9 := Lib.hid (HO8.out.same (hty9 g _ HO8.out.ty (by decide)))
      have HC9 := Lib.hid hown9
      clear hown9 hb9 hty9
      refine hK.out _ _ ?_ (fun hHeld => ?_)
      · exact ⟨HJ9.out, HO9.out⟩
      clear hK K
      try simp only [Act.put, List.setIfInBounds_toArray, List.set_cons_zero, List.set_cons_succ, List.getElem_toArray, List.getElem_cons_zero, List.getElem_cons_succ]
      refine' wpAnyZ_take (i := 6) (oi := _) (v := _) rfl (by kernel_rfl) (by kernel_rfl) (by kernel_rfl) (by kernel_rfl) (fun _ _ _ h => h) (Or.inl ⟨by rfl, ?hw5⟩) (by assumption) ?rezw5
      case hw5 => (intro w' hSw; (try dsimp only at hSw); go_simp; try with_reducible rfl)
      try simp only [Act.put, List.setIfInBounds_toArray, List.set_cons_zero, List.set_cons_succ, List.getElem_toArray, List.getElem_cons_zero, List.getElem_cons_succ]
      have m9 := HO9.out.at_.all.2.1
      have f9 := (HO9.out.there 1 (by decide)).2
      rw [Nat.zero_add] at f9
      refine wpAnyZ_last (o := _) (by kernel_rfl) rfl (by kernel_rfl) (fun K hK => ?_)
      go_simp
      refine hK _ _ ?_
      clear hK K
      try simp only [Act.put, List.setIfInBounds_toArray, List.set_cons_zero, List.set_cons_succ, List.getElem_toArray, List.getElem_cons_zero, List.getElem_cons_succ]
      obtain ⟨wa, hwa⟩ : ∃ W, W = w9.setCell ⟨g, 1, none⟩ (.slice A9 ((a.cs).length + b.cs.length) c9) := ⟨_, rfl⟩
      have hlen : ((a.cs) ++ b.cs).length = (a.cs).length + b.cs.length := List.length_append
      have HOa := Lib.hid (show Ou w wa g ⟨a.kind, b.right, (a.cs) ++ b.cs⟩ A9 c9 by rw [hwa, ← hlen]; exact HO9.out.setCs _ A9 c9)
      have HJa := Lib.hid (show Jn w wa a A ca (s) S d b B cb by rw [hwa]; exact HJ9.out.keepB ((Below.refl _ _).setCell (by exact HO9.out.lo) _))
      have HCa := Lib.hid (show OwnCl wa w.heap.size (w.heap.size + 4) A9 ((a.cs) ++ b.cs).length c9 ((a.cs) ++ b.cs) by
        rw [hlen, hwa]
        exact HC9.out.ty HO9.out.ty (by decide) (by decide) (by have := HO9.out.lo; omega) (fun i hi _ => heap_setG_ne _ _ _ hi))
      have HEQ := Lib.hid (show joinM a s b = ⟨a.kind, b.right, a.cs ++ b.cs⟩ by unfold joinM midJ; rw [if_pos HK1.out, List.append_nil])
      have HOK := Lib.hid (show joinOk a s b from ⟨HMAY.out, fun h => absurd HK1.out h⟩)
      try rw [← hwa]
      clear hwa hlen HO9 HJ9 HC9 m9 f9 F0 F1
      obtain ⟨mf, hmf⟩ : ∃ x : Nd, (⟨a.kind, b.right, (a.cs) ++ b.cs⟩ : Nd) = x := ⟨_, rfl⟩
      have hcf : (a.cs) ++ b.cs = mf.cs := by rw [← hmf]
      rw [hcf] at HCa
      rw [hmf] at HOa HEQ
      clear hmf hcf
      go_upto_region 10 with fail
      go_step
      refine wp_load_nd rfl _ rfl g mf A9 c9 rfl HOa.out.at_ ?_
      refine wp_store_nd rfl _ _ rfl (w.heap.size + 3) mf A9 c9 rfl rfl HJa.out.o ?_
      repeat go_step
      refine ret_nd rfl rfl (NdAt.stored HJa.out.o mf A9 c9) rfl ?_
      rw [HR.out]
      refine ⟨below_setCellsR HJa.out.bel (by omega) _ _, .inr ⟨HOK.out, A9, c9, by rw [HEQ.out]; rfl, ?_⟩⟩
      rw [HEQ.out]
      exact (HCa.out.mono (show w.heap.size ≤ w.heap.size + 4 by omega)).ty HJa.out.oty (by decide) (by decide) (by omega) (fun i hi _ => heap_setCells_ne _ _ _ _ hi)
    · have q2 : (a.kind != 1) = true := by simp [hk1]
      have HK1 := Lib.hid hk1
      clear hk1
      have c1 := HJ4.out.sg 1 _ rfl
      rw [Nat.zero_add] at c1
      have f1 := (HJ4.out.st 1 (by decide)).2
      rw [Nat.zero_add] at f1
      obtain ⟨w5, hw5⟩ : ∃ W, W = w4.setCell ⟨w.heap.size + 1, 1, none⟩ (.int .i64 a.right) := ⟨_, rfl⟩
      have HJ5 := Lib.hid (show Jn w w5 a A ca (sepOf a s) S d b B cb by rw [hw5]; exact HJ4.out.setS a.right)
      have HO5 := Lib.hid (show Ou w w5 g ⟨a.kind, b.right, a.cs⟩ A3 c3 by rw [hw5]; exact HO4.out.same (heap_setG_ne _ _ _ (by have := HO4.out.lo; show g ≠ w.heap.size + 1; omega)))
      have HC5 := Lib.hid (show OwnCl w5 w.heap.size (w.heap.size + 4) A3 a.cs.length c3 a.cs by rw [hw5]; exact HC4.out.low HJ4.out.sty (by omega) (by decide) (by omega) (fun i hi _ => heap_setG_ne _ _ _ hi))
      go_upto_region 6 with fail
      rw [← hw5]
      clear hw5 c1 f1 x0 x1 x2
      obtain ⟨x0, x1, x2⟩ := HJ5.out.x.all
      iterate 7 go_step
      refine wp_load_clo rfl _ rfl (w.heap.size + 1) 0 (sepOf a s) S (sepOf a s).loc.length d rfl HJ5.out.sg ?_
      go_wp2_with fail
      refine (checkC_any _ a.kind (sepOf a s) S (sepOf a s).loc.length d ⟨HSO.out.1.1, HAO.out.2.1, HSO.out.1.2.2.1, HSO.out.1.2.2.2⟩ (by show (s.loc.length : Int) ≤ _; omega)).mono ?_
      rintro e w6 ⟨rfl, hb6⟩
      have HJ6 := Lib.hid (HJ5.out.keep hb6)
      have HO6 := Lib.hid (HO5.out.keep hb6)
      have HC6 := Lib.hid (HC5.out.keep hb6)
      have hz6 := HJ6.out.sz
      clear hb6 HJ5 HO5 HC5 HJ4 HO4 HC4 x0 x1 x2
      unfold checkZ
      by_cases hg : goodC a.kind (sepOf a s) (sepOf a s).loc.length
      case neg =>
        have HF := Lib.hid (show ¬ joinOk a s b from fun h => hg (h.2 HK1.out))
        rw [if_neg hg]
        clear hg
        go_upto_region 7 with fail
        iterate 4 go_step
        refine wp_store_nd rfl _ _ rfl (w.heap.size + 3) zeroN none 0 rfl rfl HJ6.out.o ?_
        repeat go_step
        refine ret_nd rfl rfl (NdAt.stored HJ6.out.o zeroN none 0) rfl ?_
        rw [HR.out]
        exact ⟨below_setCellsR HJ6.out.bel (by omega) _ _, .inl ⟨HF.out, rfl⟩⟩
      have HG := Lib.hid hg
      rw [if_pos hg]
      clear hg
      have HJO := Lib.hid (And.intro HJ6.out HO6.out)
      have F0 : ∀ W : World, Jn w W a A ca (sepOf a s) S d b B cb ∧ Ou w W g ⟨a.kind, b.right, a.cs⟩ A3 c3 → W.cell? ⟨g, 1, none⟩ = some (.slice A3 a.cs.length c3) := fun W hW => hW.2.at_.all.2.1
      have G0 : ∀ W : World, Jn w W a A ca (sepOf a s) S d b B cb ∧ Ou w W g ⟨a.kind, b.right, a.cs⟩ A3 c3 → W.cell? ⟨w.heap.size + 1, 0, none⟩ = some (.int .i64 s.key) := fun W hW => by have := hW.1.sg 0 _ rfl; rw [Nat.zero_add] at this; exact this
      have G1 : ∀ W : World, Jn w W a A ca (sepOf a s) S d b B cb ∧ Ou w W g ⟨a.kind, b.right, a.cs⟩ A3 c3 → W.cell? ⟨w.heap.size + 1, 1, none⟩ = some (.int .i64 a.right) := fun W hW => by have := hW.1.sg 1 _ rfl; rw [Nat.zero_add] at this; exact this
      have G2 : ∀ W : World, Jn w W a A ca (sepOf a s) S d b B cb ∧ Ou w W g ⟨a.kind, b.right, a.cs⟩ A3 c3 → W.cell? ⟨w.heap.size + 1, 2, none⟩ = some (.int .i64 s.total) := fun W hW => by have := hW.1.sg 2 _ rfl; rw [Nat.zero_add] at this; exact this
      have G3 : ∀ W : World, Jn w W a A ca (sepOf a s) S d b B cb ∧ Ou w W g ⟨a.kind, b.right, a.cs⟩ A3 c3 → W.cell? ⟨w.heap.size + 1, 3, none⟩ = some (.slice S s.loc.length d) := fun W hW => by have := hW.1.sg 3 _ rfl; rw [Nat.zero_add] at this; exact this
      have G4 : ∀ W : World, Jn w W a A ca (sepOf a s) S d b B cb ∧ Ou w W g ⟨a.kind, b.right, a.cs⟩ A3 c3 → W.cell? ⟨w.heap.size + 1, 4, none⟩ = some (.int .i64 s.spill) := fun W hW => by have := hW.1.sg 4 _ rfl; rw [Nat.zero_add] at this; exact this
      go_upto_region 8 with fail
      refine wp_region_z (z := 7) (S := (fun W => Jn w W a A ca (sepOf a s) S d b B cb ∧ Ou w W g ⟨a.kind, b.right, a.cs⟩ A3 c3)) (by kernel_rfl) ?_ (fun hHeld => ?_)
      · exact ⟨HJO.out.1.keep (Below.refl _ _).drew, HJO.out.2.keep (Below.refl _ _).drew⟩
      refine' wpAnyZ_take (i := 0) (oi := _) (v := _) rfl (by kernel_rfl) (by kernel_rfl) (by kernel_rfl) (by kernel_rfl) (fun _ _ _ h => h) (Or.inl ⟨by rfl, ?hw6⟩) (by assumption) ?rezw6
      case hw6 => (intro w' hSw; (try dsimp only at hSw); go_simp; try with_reducible rfl)
      try simp only [Act.put, List.setIfInBounds_toArray, List.set_cons_zero, List.set_cons_succ, List.getElem_toArray, List.getElem_cons_zero, List.getElem_cons_succ]
      refine' wpAnyZ_take (i := 1) (oi := _) (v := _) rfl (by kernel_rfl) (by kernel_rfl) (by kernel_rfl) (by kernel_rfl) (fun _ _ _ h => h) (Or.inl ⟨by rfl, ?hw7⟩) (by assumption) ?rezw7
      case hw7 => (intro w' hSw; (try dsimp only at hSw); go_simp; try with_reducible rfl)
      try simp only [Act.put, List.setIfInBounds_toArray, List.set_cons_zero, List.set_cons_succ, List.getElem_toArray, List.getElem_cons_zero, List.getElem_cons_succ]
      refine' wpAnyZ_take (i := 2) (oi := _) (v := _) rfl (by kernel_rfl) (by kernel_rfl) (by kernel_rfl) (by kernel_rfl) (fun _ _ _ h => h) (Or.inl ⟨by rfl, ?hw8⟩) (by assumption) ?rezw8
      case hw8 => (intro w' hSw; (try dsimp only at hSw); go_simp; try with_reducible rfl)
      try simp only [Act.put, List.setIfInBounds_toArray, List.set_cons_zero, List.set_cons_succ, List.getElem_toArray, List.getElem_cons_zero, List.getElem_cons_succ]
      refine wpAnyZ_one (i := 3) (o := _) (by kernel_rfl) rfl (fun K hK => ?_)
      go_simp
      refine hK.out _ _ ?_ (fun hHeld => ?_)
      · exact ⟨HJO.out.1.keep ((Below.refl _ w6).alloc (Nat.le_refl _) _).drew, HJO.out.2.keep ((Below.refl _ w6).alloc (Nat.le_refl _) _).drew⟩
      clear hK K
      try simp only [Act.put, List.setIfInBounds_toArray, List.set_cons_zero, List.set_cons_succ, List.getElem_toArray, List.getElem_cons_zero, List.getElem_cons_succ]
      obtain ⟨wb, hwb⟩ : ∃ W, W = (w6.alloc (.cells #[.int .i64 s.key, .int .i64 a.right, .int .i64 s.total, .slice S s.loc.length d, .int .i64 s.spill] 55)).drew := ⟨_, rfl⟩
      have hbb : Below w6.heap.size w6 wb := by rw [hwb]; exact ((Below.refl _ w6).alloc (Nat.le_refl _) _).drew
      have HRB := Lib.hid (show wb.rangeAt w6.heap.size 0 (clC (sepOf a s) S (sepOf a s).loc.length d) by
        rw [hwb]
        intro t u hu
        rw [Nat.zero_add, World.cell?_drew, heap_cell (heap_alloc_new w6 _)]
        simpa [clC, sepOf] using hu)
      rw [← hwb]
      clear hwb
      refine wpAnyZ_one (i := 4) (o := _) (by kernel_rfl) rfl (fun K hK => ?_)
      go_simp
      have hj := HJO.out.1.keep hbb
      have ho := HJO.out.2.keep hbb
      have hc := HC6.out.keep hbb
      have hzz := hj.sz
      go_at_call 95
      refine (ncopied_any _ (some ⟨w6.heap.size, 0, none⟩) 1 1 [sepOf a s] rfl (by omega) (by intro x hx; simp at hx; subst hx; show s.loc.length ≤ _; omega) (.inr ⟨_, 0, rfl, fun i hi => by
        have hi1 : i < 1 := hi
        obtain rfl : i = 0 := by omega
        exact ⟨S, d, HRB.out, hd, hdm, hj.sr⟩⟩) _ rfl).mono ?_
      rintro e w8 ⟨B8, c8, rfl, hown8, hb8⟩
      have HJ8 := Lib.hid (hj.keep hb8)
      have HO8 := Lib.hid (ho.keep hb8)
      have HC8 := Lib.hid (hc.keep hb8)
      have HS8 := Lib.hid ((hown8.lift (Nat.zero_le w.heap.size)).src)
      have hz8 := HJ8.out.sz
      have hal8 := HAF.out.1
      clear hj ho hc hown8 hb8 hzz HRB hbb
      refine hK.out _ _ ?_ (fun hHeld => ?_)
      · exact ⟨HJ8.out, HO8.out⟩
      clear hK K
      try simp only [Act.put, List.setIfInBounds_toArray, List.set_cons_zero, List.set_cons_succ, List.getElem_toArray, List.getElem_cons_zero, List.getElem_cons_succ]
      refine wpAnyZ_one (i := 5) (o := _) (by kernel_rfl) rfl (fun K hK => ?_)
      refine step_append_cl2 rfl (.tmp 46) (.tmp 49) rfl w.heap.size (w.heap.size + 4) (by omega) _ _ _ _ rfl HC8.out _ _ _ _ rfl rfl HS8.out (by omega) (by omega) ?_
      intro A9 c9 w9 hown9 hb9 hty9
      have HJ9 := Lib.hid (HJ8.out.keepB hb9)
      have HO9 := Lib.hid (HO8.out.same (hty9 g _ HO8.out.ty (by decide)))
      have HC9 := Lib.hid hown9
      clear hown9 hb9 hty9
      refine hK.out _ _ ?_ (fun hHeld => ?_)
      · exact ⟨HJ9.out, HO9.out⟩
      clear hK K
      try simp only [Act.put, List.setIfInBounds_toArray, List.set_cons_zero, List.set_cons_succ, List.getElem_toArray, List.getElem_cons_zero, List.getElem_cons_succ]
      refine' wpAnyZ_take (i := 6) (oi := _) (v := _) rfl (by kernel_rfl) (by kernel_rfl) (by kernel_rfl) (by kernel_rfl) (fun _ _ _ h => h) (Or.inl ⟨by rfl, ?hw9⟩) (by assumption) ?rezw9
      case hw9 => (intro w' hSw; (try dsimp only at hSw); go_simp; try with_reducible rfl)
      try simp only [Act.put, List.setIfInBounds_toArray, List.set_cons_zero, List.set_cons_succ, List.getElem_toArray, List.getElem_cons_zero, List.getElem_cons_succ]
      have m9 := HO9.out.at_.all.2.1
      have f9 := (HO9.out.there 1 (by decide)).2
      rw [Nat.zero_add] at f9
      refine wpAnyZ_last (o := _) (by kernel_rfl) rfl (by kernel_rfl) (fun K hK => ?_)
      go_simp
      refine hK _ _ ?_
      clear hK K
      try simp only [Act.put, List.setIfInBounds_toArray, List.set_cons_zero, List.set_cons_succ, List.getElem_toArray, List.getElem_cons_zero, List.getElem_cons_succ]
      obtain ⟨wa, hwa⟩ : ∃ W, W = w9.setCell ⟨g, 1, none⟩ (.slice A9 (a.cs.length + 1) c9) := ⟨_, rfl⟩
      have hlen : (a.cs ++ [sepOf a s]).length = a.cs.length + 1 := List.length_append
      have HO := Lib.hid (show Ou w wa g ⟨a.kind, b.right, a.cs ++ [sepOf a s]⟩ A9 c9 by rw [hwa, ← hlen]; exact HO9.out.setCs _ A9 c9)
      have HJ := Lib.hid (show Jn w wa a A ca (sepOf a s) S d b B cb by rw [hwa]; exact HJ9.out.keepB ((Below.refl _ _).setCell (by exact HO9.out.lo) _))
      have HC := Lib.hid (show OwnCl wa w.heap.size (w.heap.size + 4) A9 (a.cs ++ [sepOf a s]).length c9 (a.cs ++ [sepOf a s]) by
        rw [hlen, hwa]
        exact HC9.out.ty HO9.out.ty (by decide) (by decide) (by have := HO9.out.lo; omega) (fun i hi _ => heap_setG_ne _ _ _ hi))
      try rw [← hwa]
      clear hwa HO9 HJ9 HC9 m9 f9 F0 G0 G1 G2 G3 G4 HJ8 HO8 HC8 HS8 HJO hlen
      obtain ⟨cs1, hcs1⟩ : ∃ x, a.cs ++ [sepOf a s] = x := ⟨_, rfl⟩
      have hl1 : cs1.length = a.cs.length + 1 := by rw [← hcs1, List.length_append]; rfl
      rw [hcs1] at HO HC
      have HCS := Lib.hid hcs1
      clear hcs1
      try rw [show a.cs.length + 1 = cs1.length from hl1.symm]
      have hl2 : cs1.length ≤ 401 := by have := HAF.out.1; omega
      clear hl1
      have HJO := Lib.hid (And.intro HJ.out HO.out)
      have F0 : ∀ W : World, Jn w W a A ca (sepOf a s) S d b B cb ∧ Ou w W g ⟨a.kind, b.right, cs1⟩ A9 c9 → W.cell? ⟨g, 1, none⟩ = some (.slice A9 (cs1).length c9) := fun W hW => hW.2.at_.all.2.1
      have F1 : ∀ W : World, Jn w W a A ca (sepOf a s) S d b B cb ∧ Ou w W g ⟨a.kind, b.right, cs1⟩ A9 c9 → W.cell? ⟨w.heap.size + 2, 1, none⟩ = some (.slice B b.cs.length cb) := fun W hW => hW.1.y.all.2.1
      go_upto_region 9 with fail
      refine wp_region_z (z := 7) (S := (fun W => Jn w W a A ca (sepOf a s) S d b B cb ∧ Ou w W g ⟨a.kind, b.right, cs1⟩ A9 c9)) (by kernel_rfl) ?_ (fun hHeld => ?_)
      · exact ⟨HJO.out.1.keep (Below.refl _ _).drew, HJO.out.2.keep (Below.refl _ _).drew⟩
      refine' wpAnyZ_take (i := 0) (oi := _) (v := _) rfl (by kernel_rfl) (by kernel_rfl) (by kernel_rfl) (by kernel_rfl) (fun _ _ _ h => h) (Or.inl ⟨by rfl, ?hw10⟩) (by assumption) ?rezw10
      case hw10 => (intro w' hSw; (try dsimp only at hSw); go_simp; try with_reducible rfl)
      try simp only [Act.put, List.setIfInBounds_toArray, List.set_cons_zero, List.set_cons_succ, List.getElem_toArray, List.getElem_cons_zero, List.getElem_cons_succ]
      refine' wpAnyZ_take (i := 1) (oi := _) (v := _) rfl (by kernel_rfl) (by kernel_rfl) (by kernel_rfl) (by kernel_rfl) (fun _ _ _ h => h) (Or.inl ⟨by rfl, ?hw11⟩) (by assumption) ?rezw11
      case hw11 => (intro w' hSw; (try dsimp only at hSw); go_simp; try with_reducible rfl)
      try simp only [Act.put, List.setIfInBounds_toArray, List.set_cons_zero, List.set_cons_succ, List.getElem_toArray, List.getElem_cons_zero, List.getElem_cons_succ]
      refine' wpAnyZ_take (i := 2) (oi := _) (v := _) rfl (by kernel_rfl) (by kernel_rfl) (by kernel_rfl) (by kernel_rfl) (fun _ _ _ h => h) (Or.inl ⟨by rfl, ?hw12⟩) (by assumption) ?rezw12
      case hw12 => (intro w' hSw; (try dsimp only at hSw); go_simp; try with_reducible rfl)
      try simp only [Act.put, List.setIfInBounds_toArray, List.set_cons_zero, List.set_cons_succ, List.getElem_toArray, List.getElem_cons_zero, List.getElem_cons_succ]
      refine' wpAnyZ_take (i := 3) (oi := _) (v := _) rfl (by kernel_rfl) (by kernel_rfl) (by kernel_rfl) (by kernel_rfl) (fun _ _ _ h => h) (Or.inl ⟨by rfl, ?hw13⟩) (by assumption) ?rezw13
      case hw13 => (intro w' hSw; (try dsimp only at hSw); go_simp; try with_reducible rfl)
      try simp only [Act.put, List.setIfInBounds_toArray, List.set_cons_zero, List.set_cons_succ, List.getElem_toArray, List.getElem_cons_zero, List.getElem_cons_succ]
      refine wpAnyZ_one (i := 4) (o := _) (by kernel_rfl) rfl (fun K hK => ?_)
      go_simp
      have hj := HJO.out.1.keep (Below.refl _ wa).drew
      have ho := HJO.out.2.keep (Below.refl _ wa).drew
      have hc := HC.out.keep (Below.refl _ wa).drew
      have hzz := hj.sz
      go_at_call 95
      refine (ncopied_any _ B b.cs.length cb b.cs rfl (by have := HBF.out.1; omega) (fun d hd => by have := HBF.out.2 d hd; omega) hj.yc _ rfl).mono ?_
      rintro e w8 ⟨B8, c8, rfl, hown8, hb8⟩
      have HJ8 := Lib.hid (hj.keep hb8)
      have HO8 := Lib.hid (ho.keep hb8)
      have HC8 := Lib.hid (hc.keep hb8)
      have HS8 := Lib.hid ((hown8.lift (Nat.zero_le w.heap.size)).src)
      have hz8 := HJ8.out.sz
      have hbl8 := HBF.out.1
      have hal8 := HAF.out.1
      clear hj ho hc hown8 hb8 hzz
      refine hK.out _ _ ?_ (fun hHeld => ?_)
      · exact ⟨HJ8.out, HO8.out⟩
      clear hK K
      try simp only [Act.put, List.setIfInBounds_toArray, List.set_cons_zero, List.set_cons_succ, List.getElem_toArray, List.getElem_cons_zero, List.getElem_cons_succ]
      refine wpAnyZ_one (i := 5) (o := _) (by kernel_rfl) rfl (fun K hK => ?_)
      refine step_append_cl2 rfl (.tmp 53) (.tmp 56) rfl w.heap.size (w.heap.size + 4) (by omega) _ _ _ _ rfl HC8.out _ _ _ _ rfl rfl HS8.out (by omega) (by omega) ?_
      intro A9 c9 w9 hown9 hb9 hty9
      have HJ9 := Lib.hid (HJ8.out.keepB hb9)
      have HO9 := Lib.hid (HO8.out.same (hty9 g _ HO8.out.ty (by decide)))
      have HC9 := Lib.hid hown9
      clear hown9 hb9 hty9
      refine hK.out _ _ ?_ (fun hHeld => ?_)
      · exact ⟨HJ9.out, HO9.out⟩
      clear hK K
      try simp only [Act.put, List.setIfInBounds_toArray, List.set_cons_zero, List.set_cons_succ, List.getElem_toArray, List.getElem_cons_zero, List.getElem_cons_succ]
      refine' wpAnyZ_take (i := 6) (oi := _) (v := _) rfl (by kernel_rfl) (by kernel_rfl) (by kernel_rfl) (by kernel_rfl) (fun _ _ _ h => h) (Or.inl ⟨by rfl, ?hw14⟩) (by assumption) ?rezw14
      case hw14 => (intro w' hSw; (try dsimp only at hSw); go_simp; try with_reducible rfl)
      try simp only [Act.put, List.setIfInBounds_toArray, List.set_cons_zero, List.set_cons_succ, List.getElem_toArray, List.getElem_cons_zero, List.getElem_cons_succ]
      have m9 := HO9.out.at_.all.2.1
      have f9 := (HO9.out.there 1 (by decide)).2
      rw [Nat.zero_add] at f9
      refine wpAnyZ_last (o := _) (by kernel_rfl) rfl (by kernel_rfl) (fun K hK => ?_)
      go_simp
      refine hK _ _ ?_
      clear hK K
      try simp only [Act.put, List.setIfInBounds_toArray, List.set_cons_zero, List.set_cons_succ, List.getElem_toArray, List.getElem_cons_zero, List.getElem_cons_succ]
      obtain ⟨wa, hwa⟩ : ∃ W, W = w9.setCell ⟨g, 1, none⟩ (.slice A9 ((cs1).length + b.cs.length) c9) := ⟨_, rfl⟩
      have hlen : ((cs1) ++ b.cs).length = (cs1).length + b.cs.length := List.length_append
      have HOa := Lib.hid (show Ou w wa g ⟨a.kind, b.right, (cs1) ++ b.cs⟩ A9 c9 by rw [hwa, ← hlen]; exact HO9.out.setCs _ A9 c9)
      have HJa := Lib.hid (show Jn w wa a A ca (sepOf a s) S d b B cb by rw [hwa]; exact HJ9.out.keepB ((Below.refl _ _).setCell (by exact HO9.out.lo) _))
      have HCa := Lib.hid (show OwnCl wa w.heap.size (w.heap.size + 4) A9 ((cs1) ++ b.cs).length c9 ((cs1) ++ b.cs) by
        rw [hlen, hwa]
        exact HC9.out.ty HO9.out.ty (by decide) (by decide) (by have := HO9.out.lo; omega) (fun i hi _ => heap_setG_ne _ _ _ hi))
      have HEQ := Lib.hid (show joinM a s b = ⟨a.kind, b.right, cs1 ++ b.cs⟩ by unfold joinM midJ; rw [if_neg HK1.out, HCS.out])
      have HOK := Lib.hid (show joinOk a s b from ⟨HMAY.out, fun _ => HG.out⟩)
      try rw [← hwa]
      clear hwa hlen HO9 HJ9 HC9 m9 f9 F0 F1
      obtain ⟨mf, hmf⟩ : ∃ x : Nd, (⟨a.kind, b.right, (cs1) ++ b.cs⟩ : Nd) = x := ⟨_, rfl⟩
      have hcf : (cs1) ++ b.cs = mf.cs := by rw [← hmf]
      rw [hcf] at HCa
      rw [hmf] at HOa HEQ
      clear hmf hcf
      go_upto_region 10 with fail
      go_step
      refine wp_load_nd rfl _ rfl g mf A9 c9 rfl HOa.out.at_ ?_
      refine wp_store_nd rfl _ _ rfl (w.heap.size + 3) mf A9 c9 rfl rfl HJa.out.o ?_
      repeat go_step
      refine ret_nd rfl rfl (NdAt.stored HJa.out.o mf A9 c9) rfl ?_
      rw [HR.out]
      refine ⟨below_setCellsR HJa.out.bel (by omega) _ _, .inr ⟨HOK.out, A9, c9, by rw [HEQ.out]; rfl, ?_⟩⟩
      rw [HEQ.out]
      exact (HCa.out.mono (show w.heap.size ≤ w.heap.size + 4 by omega)).ty HJa.out.oty (by decide) (by decide) (by omega) (fun i hi _ => heap_setCells_ne _ _ _ _ hi)
  · go_simp
    refine hK.out _ _ ?_ (fun hHeld => ?_)
    · exact HJ2.out.keep ((Below.refl _ w2).alloc (Nat.le_refl _) _).drew
    clear hK K
    try simp only [Act.put, List.setIfInBounds_toArray, List.set_cons_zero, List.set_cons_succ, List.getElem_toArray, List.getElem_cons_zero, List.getElem_cons_succ]
    obtain ⟨wx, hwx⟩ : ∃ W, W = (w2.alloc (.cells #[.int .i64 0, .slice none 0 0, .int .i64 0] 69)).drew := ⟨_, rfl⟩
    have hbx : Below w2.heap.size w2 wx := by rw [hwx]; exact ((Below.refl _ w2).alloc (Nat.le_refl _) _).drew
    have hbx1 : Below (w2.heap.size + 1) (w2.alloc (.cells #[.int .i64 0, .slice none 0 0, .int .i64 0] 69)) wx := by rw [hwx]; exact (Below.refl _ _).drew
    have hlx : w2.heap.size + 1 ≤ wx.heap.size := by have := hbx1.size; simpa using this
    have HJX := Lib.hid (HJ2.out.keep hbx)
    rw [← hwx]
    clear hwx hbx
    refine wpAnyH_ready (rs := [4]) (by kernel_rfl) (by simp) ?_
    refine AllReadyH.cons (o := _) rfl (fun K hK => ?_) AllReadyH.nil
    go_simp
    have hj := HJX.out
    go_at_call 95
    refine (ncopied_any _ A a.cs.length ca a.cs rfl (by have := HAF.out.1; omega) (fun d hd => by have := HAF.out.2 d hd; omega) hj.xc _ rfl).mono ?_
    rintro e w3 ⟨A3, c3, rfl, hown3, hb3⟩
    have HJ3 := Lib.hid (hj.keep hb3)
    have HO3 := Lib.hid hown3
    clear hj hown3
    refine hK.out _ _ ?_ (fun hHeld => ?_)
    · exact HJ3.out
    clear hK K
    try simp only [Act.put, List.setIfInBounds_toArray, List.set_cons_zero, List.set_cons_succ, List.getElem_toArray, List.getElem_cons_zero, List.getElem_cons_succ]
    refine' wpAnyH_take (i := 7) (oi := _) (v := _) rfl (by kernel_rfl) (by kernel_rfl) (by kernel_rfl) (fun _ _ _ h => h) (Or.inl ⟨by rfl, ?hz8⟩) (by assumption) ?rezt8
    case hz8 => (intro w' hSw; (try dsimp only at hSw); go_simp; try with_reducible rfl)
    try simp only [Act.put, List.setIfInBounds_toArray, List.set_cons_zero, List.set_cons_succ, List.getElem_toArray, List.getElem_cons_zero, List.getElem_cons_succ]
    have hzx := HJX.out.sz
    have hbx3 := hbx1.trans (hb3.mono hlx)
    have HT3 := Lib.hid (there_keepR (there_new3 w2 _ _ _ _) hbx3 (Nat.lt_succ_self _))
    have HY3 := Lib.hid ((TyAt.new w2 _ _).keepB hbx3 (Nat.lt_succ_self _))
    refine wpAnyH_ready (rs := [9]) (by kernel_rfl) (by simp) ?_
    refine AllReadyH.cons (o := _) rfl (fun K hK => ?_) AllReadyH.nil
    refine step_store_nd rfl _ _ rfl w2.heap.size ⟨a.kind, b.right, a.cs⟩ A3 c3 rfl rfl HT3.out ?_
    refine hK.out _ _ ?_ (fun hHeld => ?_)
    · exact HJ3.out.keepB (below_setCellsR (Below.refl _ _) hz2 _ _)
    clear hK K
    try simp only [Act.put, List.setIfInBounds_toArray, List.set_cons_zero, List.set_cons_succ, List.getElem_toArray, List.getElem_cons_zero, List.getElem_cons_succ]
    refine wpAnyH_done (by kernel_rfl) ?_ _
    obtain ⟨w4, hw4⟩ : ∃ W, W = w3.setCells w2.heap.size 0 (ndC ⟨a.kind, b.right, a.cs⟩ A3 c3) := ⟨_, rfl⟩
    have HJ4 := Lib.hid (show Jn w w4 a A ca s S d b B cb by rw [hw4]; exact HJ3.out.keepB (below_setCellsR (Below.refl _ _) hz2 _ _))
    have HO4 := Lib.hid (show Ou w w4 w2.heap.size ⟨a.kind, b.right, a.cs⟩ A3 c3 by rw [hw4]; exact Ou.made w w2 hz2 _ A3 c3 hbx3)
    have HC4 := Lib.hid (show OwnCl w4 w.heap.size (w.heap.size + 4) A3 a.cs.length c3 a.cs by
      rw [hw4]
      exact ((HO3.out.mono hzx).lift (Nat.zero_le _)).ty HY3.out (by decide) (by decide) (by omega) (fun i hi _ => heap_setCells_ne _ _ _ _ hi))
    rw [← hw4]
    obtain ⟨g, hg⟩ : ∃ x, w2.heap.size = x := ⟨_, rfl⟩
    rw [hg] at HO4 ⊢
    clear hg hw4 HO3 HJ3 hb3 hzx HJX F0 F1 F2 F3 HT3 HY3 hbx3 hbx1 hlx
    have hz4 := HJ4.out.sz
    obtain ⟨x0, x1, x2⟩ := HJ4.out.x.all
    by_cases hk1 : a.kind = 1
    · have q2 : (a.kind != 1) = false := by simp [hk1]
      have HK1 := Lib.hid hk1
      clear hk1
      have HJ := HJ4
      have HO := HO4
      have HC := HC4
      have HJO := Lib.hid (And.intro HJ.out HO.out)
      have F0 : ∀ W : World, Jn w W a A ca (s) S d b B cb ∧ Ou w W g ⟨a.kind, b.right, a.cs⟩ A3 c3 → W.cell? ⟨g, 1, none⟩ = some (.slice A3 (a.cs).length c3) := fun W hW => hW.2.at_.all.2.1
      have F1 : ∀ W : World, Jn w W a A ca (s) S d b B cb ∧ Ou w W g ⟨a.kind, b.right, a.cs⟩ A3 c3 → W.cell? ⟨w.heap.size + 2, 1, none⟩ = some (.slice B b.cs.length cb) := fun W hW => hW.1.y.all.2.1
      go_upto_region 9 with fail
      refine wp_region_z (z := 7) (S := (fun W => Jn w W a A ca (s) S d b B cb ∧ Ou w W g ⟨a.kind, b.right, a.cs⟩ A3 c3)) (by kernel_rfl) ?_ (fun hHeld => ?_)
      · exact ⟨HJO.out.1.keep (Below.refl _ _).drew, HJO.out.2.keep (Below.refl _ _).drew⟩
      refine' wpAnyZ_take (i := 0) (oi := _) (v := _) rfl (by kernel_rfl) (by kernel_rfl) (by kernel_rfl) (by kernel_rfl) (fun _ _ _ h => h) (Or.inl ⟨by rfl, ?hw15⟩) (by assumption) ?rezw15
      case hw15 => (intro w' hSw; (try dsimp only at hSw); go_simp; try with_reducible rfl)
      try simp only [Act.put, List.setIfInBounds_toArray, List.set_cons_zero, List.set_cons_succ, List.getElem_toArray, List.getElem_cons_zero, List.getElem_cons_succ]
      refine' wpAnyZ_take (i := 1) (oi := _) (v := _) rfl (by kernel_rfl) (by kernel_rfl) (by kernel_rfl) (by kernel_rfl) (fun _ _ _ h => h) (Or.inl ⟨by rfl, ?hw16⟩) (by assumption) ?rezw16
      case hw16 => (intro w' hSw; (try dsimp only at hSw); go_simp; try with_reducible rfl)
      try simp only [Act.put, List.setIfInBounds_toArray, List.set_cons_zero, List.set_cons_succ, List.getElem_toArray, List.getElem_cons_zero, List.getElem_cons_succ]
      refine' wpAnyZ_take (i := 2) (oi := _) (v := _) rfl (by kernel_rfl) (by kernel_rfl) (by kernel_rfl) (by kernel_rfl) (fun _ _ _ h => h) (Or.inl ⟨by rfl, ?hw17⟩) (by assumption) ?rezw17
      case hw17 => (intro w' hSw; (try dsimp only at hSw); go_simp; try with_reducible rfl)
      try simp only [Act.put, List.setIfInBounds_toArray, List.set_cons_zero, List.set_cons_succ, List.getElem_toArray, List.getElem_cons_zero, List.getElem_cons_succ]
      refine' wpAnyZ_take (i := 3) (oi := _) (v := _) rfl (by kernel_rfl) (by kernel_rfl) (by kernel_rfl) (by kernel_rfl) (fun _ _ _ h => h) (Or.inl ⟨by rfl, ?hw18⟩) (by assumption) ?rezw18
      case hw18 => (intro w' hSw; (try dsimp only at hSw); go_simp; try with_reducible rfl)
      try simp only [Act.put, List.setIfInBounds_toArray, List.set_cons_zero, List.set_cons_succ, List.getElem_toArray, List.getElem_cons_zero, List.getElem_cons_succ]
      refine wpAnyZ_one (i := 4) (o := _) (by kernel_rfl) rfl (fun K hK => ?_)
      go_simp
      have hj := HJO.out.1.keep (Below.refl _ w4).drew
      have ho := HJO.out.2.keep (Below.refl _ w4).drew
      have hc := HC.out.keep (Below.refl _ w4).drew
      have hzz := hj.sz
      go_at_call 95
      refine (ncopied_any _ B b.cs.length cb b.cs rfl (by have := HBF.out.1; omega) (fun d hd => by have := HBF.out.2 d hd; omega) hj.yc _ rfl).mono ?_
      rintro e w8 ⟨B8, c8, rfl, hown8, hb8⟩
      have HJ8 := Lib.hid (hj.keep hb8)
      have HO8 := Lib.hid (ho.keep hb8)
      have HC8 := Lib.hid (hc.keep hb8)
      have HS8 := Lib.hid ((hown8.lift (Nat.zero_le w.heap.size)).src)
      have hz8 := HJ8.out.sz
      have hbl8 := HBF.out.1
      have hal8 := HAF.out.1
      clear hj ho hc hown8 hb8 hzz
      refine hK.out _ _ ?_ (fun hHeld => ?_)
      · exact ⟨HJ8.out, HO8.out⟩
      clear hK K
      try simp only [Act.put, List.setIfInBounds_toArray, List.set_cons_zero, List.set_cons_succ, List.getElem_toArray, List.getElem_cons_zero, List.getElem_cons_succ]
      refine wpAnyZ_one (i := 5) (o := _) (by kernel_rfl) rfl (fun K hK => ?_)
      refine step_append_cl2 rfl (.tmp 53) (.tmp 56) rfl w.heap.size (w.heap.size + 4) (by omega) _ _ _ _ rfl HC8.out _ _ _ _ rfl rfl HS8.out (by omega) (by omega) ?_
      intro A9 c9 w9 hown9 hb9 hty9
      have HJ9 := Lib.hid (HJ8.out.keepB hb9)
      have HO9 := Lib.hid (HO8.out.same (hty9 g _ HO8.out.ty (by decide)))
      have HC9 := Lib.hid hown9
      clear hown9 hb9 hty9
      refine hK.out _ _ ?_ (fun hHeld => ?_)
      · exact ⟨HJ9.out, HO9.out⟩
      clear hK K
      try simp only [Act.put, List.setIfInBounds_toArray, List.set_cons_zero, List.set_cons_succ, List.getElem_toArray, List.getElem_cons_zero, List.getElem_cons_succ]
      refine' wpAnyZ_take (i := 6) (oi := _) (v := _) rfl (by kernel_rfl) (by kernel_rfl) (by kernel_rfl) (by kernel_rfl) (fun _ _ _ h => h) (Or.inl ⟨by rfl, ?hw19⟩) (by assumption) ?rezw19
      case hw19 => (intro w' hSw; (try dsimp only at hSw); go_simp; try with_reducible rfl)
      try simp only [Act.put, List.setIfInBounds_toArray, List.set_cons_zero, List.set_cons_succ, List.getElem_toArray, List.getElem_cons_zero, List.getElem_cons_succ]
      have m9 := HO9.out.at_.all.2.1
      have f9 := (HO9.out.there 1 (by decide)).2
      rw [Nat.zero_add] at f9
      refine wpAnyZ_last (o := _) (by kernel_rfl) rfl (by kernel_rfl) (fun K hK => ?_)
      go_simp
      refine hK _ _ ?_
      clear hK K
      try simp only [Act.put, List.setIfInBounds_toArray, List.set_cons_zero, List.set_cons_succ, List.getElem_toArray, List.getElem_cons_zero, List.getElem_cons_succ]
      obtain ⟨wa, hwa⟩ : ∃ W, W = w9.setCell ⟨g, 1, none⟩ (.slice A9 ((a.cs).length + b.cs.length) c9) := ⟨_, rfl⟩
      have hlen : ((a.cs) ++ b.cs).length = (a.cs).length + b.cs.length := List.length_append
      have HOa := Lib.hid (show Ou w wa g ⟨a.kind, b.right, (a.cs) ++ b.cs⟩ A9 c9 by rw [hwa, ← hlen]; exact HO9.out.setCs _ A9 c9)
      have HJa := Lib.hid (show Jn w wa a A ca (s) S d b B cb by rw [hwa]; exact HJ9.out.keepB ((Below.refl _ _).setCell (by exact HO9.out.lo) _))
      have HCa := Lib.hid (show OwnCl wa w.heap.size (w.heap.size + 4) A9 ((a.cs) ++ b.cs).length c9 ((a.cs) ++ b.cs) by
        rw [hlen, hwa]
        exact HC9.out.ty HO9.out.ty (by decide) (by decide) (by have := HO9.out.lo; omega) (fun i hi _ => heap_setG_ne _ _ _ hi))
      have HEQ := Lib.hid (show joinM a s b = ⟨a.kind, b.right, a.cs ++ b.cs⟩ by unfold joinM midJ; rw [if_pos HK1.out, List.append_nil])
      have HOK := Lib.hid (show joinOk a s b from ⟨HMAY.out, fun h => absurd HK1.out h⟩)
      try rw [← hwa]
      clear hwa hlen HO9 HJ9 HC9 m9 f9 F0 F1
      obtain ⟨mf, hmf⟩ : ∃ x : Nd, (⟨a.kind, b.right, (a.cs) ++ b.cs⟩ : Nd) = x := ⟨_, rfl⟩
      have hcf : (a.cs) ++ b.cs = mf.cs := by rw [← hmf]
      rw [hcf] at HCa
      rw [hmf] at HOa HEQ
      clear hmf hcf
      go_upto_region 10 with fail
      go_step
      refine wp_load_nd rfl _ rfl g mf A9 c9 rfl HOa.out.at_ ?_
      refine wp_store_nd rfl _ _ rfl (w.heap.size + 3) mf A9 c9 rfl rfl HJa.out.o ?_
      repeat go_step
      refine ret_nd rfl rfl (NdAt.stored HJa.out.o mf A9 c9) rfl ?_
      rw [HR.out]
      refine ⟨below_setCellsR HJa.out.bel (by omega) _ _, .inr ⟨HOK.out, A9, c9, by rw [HEQ.out]; rfl, ?_⟩⟩
      rw [HEQ.out]
      exact (HCa.out.mono (show w.heap.size ≤ w.heap.size + 4 by omega)).ty HJa.out.oty (by decide) (by decide) (by omega) (fun i hi _ => heap_setCells_ne _ _ _ _ hi)
    · have q2 : (a.kind != 1) = true := by simp [hk1]
      have HK1 := Lib.hid hk1
      clear hk1
      have c1 := HJ4.out.sg 1 _ rfl
      rw [Nat.zero_add] at c1
      have f1 := (HJ4.out.st 1 (by decide)).2
      rw [Nat.zero_add] at f1
      obtain ⟨w5, hw5⟩ : ∃ W, W = w4.setCell ⟨w.heap.size + 1, 1, none⟩ (.int .i64 a.right) := ⟨_, rfl⟩
      have HJ5 := Lib.hid (show Jn w w5 a A ca (sepOf a s) S d b B cb by rw [hw5]; exact HJ4.out.setS a.right)
      have HO5 := Lib.hid (show Ou w w5 g ⟨a.kind, b.right, a.cs⟩ A3 c3 by rw [hw5]; exact HO4.out.same (heap_setG_ne _ _ _ (by have := HO4.out.lo; show g ≠ w.heap.size + 1; omega)))
      have HC5 := Lib.hid (show OwnCl w5 w.heap.size (w.heap.size + 4) A3 a.cs.length c3 a.cs by rw [hw5]; exact HC4.out.low HJ4.out.sty (by omega) (by decide) (by omega) (fun i hi _ => heap_setG_ne _ _ _ hi))
      go_upto_region 6 with fail
      rw [← hw5]
      clear hw5 c1 f1 x0 x1 x2
      obtain ⟨x0, x1, x2⟩ := HJ5.out.x.all
      iterate 7 go_step
      refine wp_load_clo rfl _ rfl (w.heap.size + 1) 0 (sepOf a s) S (sepOf a s).loc.length d rfl HJ5.out.sg ?_
      go_wp2_with fail
      refine (checkC_any _ a.kind (sepOf a s) S (sepOf a s).loc.length d ⟨HSO.out.1.1, HAO.out.2.1, HSO.out.1.2.2.1, HSO.out.1.2.2.2⟩ (by show (s.loc.length : Int) ≤ _; omega)).mono ?_
      rintro e w6 ⟨rfl, hb6⟩
      have HJ6 := Lib.hid (HJ5.out.keep hb6)
      have HO6 := Lib.hid (HO5.out.keep hb6)
      have HC6 := Lib.hid (HC5.out.keep hb6)
      have hz6 := HJ6.out.sz
      clear hb6 HJ5 HO5 HC5 HJ4 HO4 HC4 x0 x1 x2
      unfold checkZ
      by_cases hg : goodC a.kind (sepOf a s) (sepOf a s).loc.length
      case neg =>
        have HF := Lib.hid (show ¬ joinOk a s b from fun h => hg (h.2 HK1.out))
        rw [if_neg hg]
        clear hg
        go_upto_region 7 with fail
        iterate 4 go_step
        refine wp_store_nd rfl _ _ rfl (w.heap.size + 3) zeroN none 0 rfl rfl HJ6.out.o ?_
        repeat go_step
        refine ret_nd rfl rfl (NdAt.stored HJ6.out.o zeroN none 0) rfl ?_
        rw [HR.out]
        exact ⟨below_setCellsR HJ6.out.bel (by omega) _ _, .inl ⟨HF.out, rfl⟩⟩
      have HG := Lib.hid hg
      rw [if_pos hg]
      clear hg
      have HJO := Lib.hid (And.intro HJ6.out HO6.out)
      have F0 : ∀ W : World, Jn w W a A ca (sepOf a s) S d b B cb ∧ Ou w W g ⟨a.kind, b.right, a.cs⟩ A3 c3 → W.cell? ⟨g, 1, none⟩ = some (.slice A3 a.cs.length c3) := fun W hW => hW.2.at_.all.2.1
      have G0 : ∀ W : World, Jn w W a A ca (sepOf a s) S d b B cb ∧ Ou w W g ⟨a.kind, b.right, a.cs⟩ A3 c3 → W.cell? ⟨w.heap.size + 1, 0, none⟩ = some (.int .i64 s.key) := fun W hW => by have := hW.1.sg 0 _ rfl; rw [Nat.zero_add] at this; exact this
      have G1 : ∀ W : World, Jn w W a A ca (sepOf a s) S d b B cb ∧ Ou w W g ⟨a.kind, b.right, a.cs⟩ A3 c3 → W.cell? ⟨w.heap.size + 1, 1, none⟩ = some (.int .i64 a.right) := fun W hW => by have := hW.1.sg 1 _ rfl; rw [Nat.zero_add] at this; exact this
      have G2 : ∀ W : World, Jn w W a A ca (sepOf a s) S d b B cb ∧ Ou w W g ⟨a.kind, b.right, a.cs⟩ A3 c3 → W.cell? ⟨w.heap.size + 1, 2, none⟩ = some (.int .i64 s.total) := fun W hW => by have := hW.1.sg 2 _ rfl; rw [Nat.zero_add] at this; exact this
      have G3 : ∀ W : World, Jn w W a A ca (sepOf a s) S d b B cb ∧ Ou w W g ⟨a.kind, b.right, a.cs⟩ A3 c3 → W.cell? ⟨w.heap.size + 1, 3, none⟩ = some (.slice S s.loc.length d) := fun W hW => by have := hW.1.sg 3 _ rfl; rw [Nat.zero_add] at this; exact this
      have G4 : ∀ W : World, Jn w W a A ca (sepOf a s) S d b B cb ∧ Ou w W g ⟨a.kind, b.right, a.cs⟩ A3 c3 → W.cell? ⟨w.heap.size + 1, 4, none⟩ = some (.int .i64 s.spill) := fun W hW => by have := hW.1.sg 4 _ rfl; rw [Nat.zero_add] at this; exact this
      go_upto_region 8 with fail
      refine wp_region_z (z := 7) (S := (fun W => Jn w W a A ca (sepOf a s) S d b B cb ∧ Ou w W g ⟨a.kind, b.right, a.cs⟩ A3 c3)) (by kernel_rfl) ?_ (fun hHeld => ?_)
      · exact ⟨HJO.out.1.keep (Below.refl _ _).drew, HJO.out.2.keep (Below.refl _ _).drew⟩
      refine' wpAnyZ_take (i := 0) (oi := _) (v := _) rfl (by kernel_rfl) (by kernel_rfl) (by kernel_rfl) (by kernel_rfl) (fun _ _ _ h => h) (Or.inl ⟨by rfl, ?hw20⟩) (by assumption) ?rezw20
      case hw20 => (intro w' hSw; (try dsimp only at hSw); go_simp; try with_reducible rfl)
      try simp only [Act.put, List.setIfInBounds_toArray, List.set_cons_zero, List.set_cons_succ, List.getElem_toArray, List.getElem_cons_zero, List.getElem_cons_succ]
      refine' wpAnyZ_take (i := 1) (oi := _) (v := _) rfl (by kernel_rfl) (by kernel_rfl) (by kernel_rfl) (by kernel_rfl) (fun _ _ _ h => h) (Or.inl ⟨by rfl, ?hw21⟩) (by assumption) ?rezw21
      case hw21 => (intro w' hSw; (try dsimp only at hSw); go_simp; try with_reducible rfl)
      try simp only [Act.put, List.setIfInBounds_toArray, List.set_cons_zero, List.set_cons_succ, List.getElem_toArray, List.getElem_cons_zero, List.getElem_cons_succ]
      refine' wpAnyZ_take (i := 2) (oi := _) (v := _) rfl (by kernel_rfl) (by kernel_rfl) (by kernel_rfl) (by kernel_rfl) (fun _ _ _ h => h) (Or.inl ⟨by rfl, ?hw22⟩) (by assumption) ?rezw22
      case hw22 => (intro w' hSw; (try dsimp only at hSw); go_simp; try with_reducible rfl)
      try simp only [Act.put, List.setIfInBounds_toArray, List.set_cons_zero, List.set_cons_succ, List.getElem_toArray, List.getElem_cons_zero, List.getElem_cons_succ]
      refine wpAnyZ_one (i := 3) (o := _) (by kernel_rfl) rfl (fun K hK => ?_)
      go_simp
      refine hK.out _ _ ?_ (fun hHeld => ?_)
      · exact ⟨HJO.out.1.keep ((Below.refl _ w6).alloc (Nat.le_refl _) _).drew, HJO.out.2.keep ((Below.refl _ w6).alloc (Nat.le_refl _) _).drew⟩
      clear hK K
      try simp only [Act.put, List.setIfInBounds_toArray, List.set_cons_zero, List.set_cons_succ, List.getElem_toArray, List.getElem_cons_zero, List.getElem_cons_succ]
      obtain ⟨wb, hwb⟩ : ∃ W, W = (w6.alloc (.cells #[.int .i64 s.key, .int .i64 a.right, .int .i64 s.total, .slice S s.loc.length d, .int .i64 s.spill] 55)).drew := ⟨_, rfl⟩
      have hbb : Below w6.heap.size w6 wb := by rw [hwb]; exact ((Below.refl _ w6).alloc (Nat.le_refl _) _).drew
      have HRB := Lib.hid (show wb.rangeAt w6.heap.size 0 (clC (sepOf a s) S (sepOf a s).loc.length d) by
        rw [hwb]
        intro t u hu
        rw [Nat.zero_add, World.cell?_drew, heap_cell (heap_alloc_new w6 _)]
        simpa [clC, sepOf] using hu)
      rw [← hwb]
      clear hwb
      refine wpAnyZ_one (i := 4) (o := _) (by kernel_rfl) rfl (fun K hK => ?_)
      go_simp
      have hj := HJO.out.1.keep hbb
      have ho := HJO.out.2.keep hbb
      have hc := HC6.out.keep hbb
      have hzz := hj.sz
      go_at_call 95
      refine (ncopied_any _ (some ⟨w6.heap.size, 0, none⟩) 1 1 [sepOf a s] rfl (by omega) (by intro x hx; simp at hx; subst hx; show s.loc.length ≤ _; omega) (.inr ⟨_, 0, rfl, fun i hi => by
        have hi1 : i < 1 := hi
        obtain rfl : i = 0 := by omega
        exact ⟨S, d, HRB.out, hd, hdm, hj.sr⟩⟩) _ rfl).mono ?_
      rintro e w8 ⟨B8, c8, rfl, hown8, hb8⟩
      have HJ8 := Lib.hid (hj.keep hb8)
      have HO8 := Lib.hid (ho.keep hb8)
      have HC8 := Lib.hid (hc.keep hb8)
      have HS8 := Lib.hid ((hown8.lift (Nat.zero_le w.heap.size)).src)
      have hz8 := HJ8.out.sz
      have hal8 := HAF.out.1
      clear hj ho hc hown8 hb8 hzz HRB hbb
      refine hK.out _ _ ?_ (fun hHeld => ?_)
      · exact ⟨HJ8.out, HO8.out⟩
      clear hK K
      try simp only [Act.put, List.setIfInBounds_toArray, List.set_cons_zero, List.set_cons_succ, List.getElem_toArray, List.getElem_cons_zero, List.getElem_cons_succ]
      refine wpAnyZ_one (i := 5) (o := _) (by kernel_rfl) rfl (fun K hK => ?_)
      refine step_append_cl2 rfl (.tmp 46) (.tmp 49) rfl w.heap.size (w.heap.size + 4) (by omega) _ _ _ _ rfl HC8.out _ _ _ _ rfl rfl HS8.out (by omega) (by omega) ?_
      intro A9 c9 w9 hown9 hb9 hty9
      have HJ9 := Lib.hid (HJ8.out.keepB hb9)
      have HO9 := Lib.hid (HO8.out.same (hty9 g _ HO8.out.ty (by decide)))
      have HC9 := Lib.hid hown9
      clear hown9 hb9 hty9
      refine hK.out _ _ ?_ (fun hHeld => ?_)
      · exact ⟨HJ9.out, HO9.out⟩
      clear hK K
      try simp only [Act.put, List.setIfInBounds_toArray, List.set_cons_zero, List.set_cons_succ, List.getElem_toArray, List.getElem_cons_zero, List.getElem_cons_succ]
      refine' wpAnyZ_take (i := 6) (oi := _) (v := _) rfl (by kernel_rfl) (by kernel_rfl) (by kernel_rfl) (by kernel_rfl) (fun _ _ _ h => h) (Or.inl ⟨by rfl, ?hw23⟩) (by assumption) ?rezw23
      case hw23 => (intro w' hSw; (try dsimp only at hSw); go_simp; try with_reducible rfl)
      try simp only [Act.put, List.setIfInBounds_toArray, List.set_cons_zero, List.set_cons_succ, List.getElem_toArray, List.getElem_cons_zero, List.getElem_cons_succ]
      have m9 := HO9.out.at_.all.2.1
      have f9 := (HO9.out.there 1 (by decide)).2
      rw [Nat.zero_add] at f9
      refine wpAnyZ_last (o := _) (by kernel_rfl) rfl (by kernel_rfl) (fun K hK => ?_)
      go_simp
      refine hK _ _ ?_
      clear hK K
      try simp only [Act.put, List.setIfInBounds_toArray, List.set_cons_zero, List.set_cons_succ, List.getElem_toArray, List.getElem_cons_zero, List.getElem_cons_succ]
      obtain ⟨wa, hwa⟩ : ∃ W, W = w9.setCell ⟨g, 1, none⟩ (.slice A9 (a.cs.length + 1) c9) := ⟨_, rfl⟩
      have hlen : (a.cs ++ [sepOf a s]).length = a.cs.length + 1 := List.length_append
      have HO := Lib.hid (show Ou w wa g ⟨a.kind, b.right, a.cs ++ [sepOf a s]⟩ A9 c9 by rw [hwa, ← hlen]; exact HO9.out.setCs _ A9 c9)
      have HJ := Lib.hid (show Jn w wa a A ca (sepOf a s) S d b B cb by rw [hwa]; exact HJ9.out.keepB ((Below.refl _ _).setCell (by exact HO9.out.lo) _))
      have HC := Lib.hid (show OwnCl wa w.heap.size (w.heap.size + 4) A9 (a.cs ++ [sepOf a s]).length c9 (a.cs ++ [sepOf a s]) by
        rw [hlen, hwa]
        exact HC9.out.ty HO9.out.ty (by decide) (by decide) (by have := HO9.out.lo; omega) (fun i hi _ => heap_setG_ne _ _ _ hi))
      try rw [← hwa]
      clear hwa HO9 HJ9 HC9 m9 f9 F0 G0 G1 G2 G3 G4 HJ8 HO8 HC8 HS8 HJO hlen
      obtain ⟨cs1, hcs1⟩ : ∃ x, a.cs ++ [sepOf a s] = x := ⟨_, rfl⟩
      have hl1 : cs1.length = a.cs.length + 1 := by rw [← hcs1, List.length_append]; rfl
      rw [hcs1] at HO HC
      have HCS := Lib.hid hcs1
      clear hcs1
      try rw [show a.cs.length + 1 = cs1.length from hl1.symm]
      have hl2 : cs1.length ≤ 401 := by have := HAF.out.1; omega
      clear hl1
      have HJO := Lib.hid (And.intro HJ.out HO.out)
      have F0 : ∀ W : World, Jn w W a A ca (sepOf a s) S d b B cb ∧ Ou w W g ⟨a.kind, b.right, cs1⟩ A9 c9 → W.cell? ⟨g, 1, none⟩ = some (.slice A9 (cs1).length c9) := fun W hW => hW.2.at_.all.2.1
      have F1 : ∀ W : World, Jn w W a A ca (sepOf a s) S d b B cb ∧ Ou w W g ⟨a.kind, b.right, cs1⟩ A9 c9 → W.cell? ⟨w.heap.size + 2, 1, none⟩ = some (.slice B b.cs.length cb) := fun W hW => hW.1.y.all.2.1
      go_upto_region 9 with fail
      refine wp_region_z (z := 7) (S := (fun W => Jn w W a A ca (sepOf a s) S d b B cb ∧ Ou w W g ⟨a.kind, b.right, cs1⟩ A9 c9)) (by kernel_rfl) ?_ (fun hHeld => ?_)
      · exact ⟨HJO.out.1.keep (Below.refl _ _).drew, HJO.out.2.keep (Below.refl _ _).drew⟩
      refine' wpAnyZ_take (i := 0) (oi := _) (v := _) rfl (by kernel_rfl) (by kernel_rfl) (by kernel_rfl) (by kernel_rfl) (fun _ _ _ h => h) (Or.inl ⟨by rfl, ?hw24⟩) (by assumption) ?rezw24
      case hw24 => (intro w' hSw; (try dsimp only at hSw); go_simp; try with_reducible rfl)
      try simp only [Act.put, List.setIfInBounds_toArray, List.set_cons_zero, List.set_cons_succ, List.getElem_toArray, List.getElem_cons_zero, List.getElem_cons_succ]
      refine' wpAnyZ_take (i := 1) (oi := _) (v := _) rfl (by kernel_rfl) (by kernel_rfl) (by kernel_rfl) (by kernel_rfl) (fun _ _ _ h => h) (Or.inl ⟨by rfl, ?hw25⟩) (by assumption) ?rezw25
      case hw25 => (intro w' hSw; (try dsimp only at hSw); go_simp; try with_reducible rfl)
      try simp only [Act.put, List.setIfInBounds_toArray, List.set_cons_zero, List.set_cons_succ, List.getElem_toArray, List.getElem_cons_zero, List.getElem_cons_succ]
      refine' wpAnyZ_take (i := 2) (oi := _) (v := _) rfl (by kernel_rfl) (by kernel_rfl) (by kernel_rfl) (by kernel_rfl) (fun _ _ _ h => h) (Or.inl ⟨by rfl, ?hw26⟩) (by assumption) ?rezw26
      case hw26 => (intro w' hSw; (try dsimp only at hSw); go_simp; try with_reducible rfl)
      try simp only [Act.put, List.setIfInBounds_toArray, List.set_cons_zero, List.set_cons_succ, List.getElem_toArray, List.getElem_cons_zero, List.getElem_cons_succ]
      refine' wpAnyZ_take (i := 3) (oi := _) (v := _) rfl (by kernel_rfl) (by kernel_rfl) (by kernel_rfl) (by kernel_rfl) (fun _ _ _ h => h) (Or.inl ⟨by rfl, ?hw27⟩) (by assumption) ?rezw27
      case hw27 => (intro w' hSw; (try dsimp only at hSw); go_simp; try with_reducible rfl)
      try simp only [Act.put, List.setIfInBounds_toArray, List.set_cons_zero, List.set_cons_succ, List.getElem_toArray, List.getElem_cons_zero, List.getElem_cons_succ]
      refine wpAnyZ_one (i := 4) (o := _) (by kernel_rfl) rfl (fun K hK => ?_)
      go_simp
      have hj := HJO.out.1.keep (Below.refl _ wa).drew
      have ho := HJO.out.2.keep (Below.refl _ wa).drew
      have hc := HC.out.keep (Below.refl _ wa).drew
      have hzz := hj.sz
      go_at_call 95
      refine (ncopied_any _ B b.cs.length cb b.cs rfl (by have := HBF.out.1; omega) (fun d hd => by have := HBF.out.2 d hd; omega) hj.yc _ rfl).mono ?_
      rintro e w8 ⟨B8, c8, rfl, hown8, hb8⟩
      have HJ8 := Lib.hid (hj.keep hb8)
      have HO8 := Lib.hid (ho.keep hb8)
      have HC8 := Lib.hid (hc.keep hb8)
      have HS8 := Lib.hid ((hown8.lift (Nat.zero_le w.heap.size)).src)
      have hz8 := HJ8.out.sz
      have hbl8 := HBF.out.1
      have hal8 := HAF.out.1
      clear hj ho hc hown8 hb8 hzz
      refine hK.out _ _ ?_ (fun hHeld => ?_)
      · exact ⟨HJ8.out, HO8.out⟩
      clear hK K
      try simp only [Act.put, List.setIfInBounds_toArray, List.set_cons_zero, List.set_cons_succ, List.getElem_toArray, List.getElem_cons_zero, List.getElem_cons_succ]
      refine wpAnyZ_one (i := 5) (o := _) (by kernel_rfl) rfl (fun K hK => ?_)
      refine step_append_cl2 rfl (.tmp 53) (.tmp 56) rfl w.heap.size (w.heap.size + 4) (by omega) _ _ _ _ rfl HC8.out _ _ _ _ rfl rfl HS8.out (by omega) (by omega) ?_
      intro A9 c9 w9 hown9 hb9 hty9
      have HJ9 := Lib.hid (HJ8.out.keepB hb9)
      have HO9 := Lib.hid (HO8.out.same (hty9 g _ HO8.out.ty (by decide)))
      have HC9 := Lib.hid hown9
      clear hown9 hb9 hty9
      refine hK.out _ _ ?_ (fun hHeld => ?_)
      · exact ⟨HJ9.out, HO9.out⟩
      clear hK K
      try simp only [Act.put, List.setIfInBounds_toArray, List.set_cons_zero, List.set_cons_succ, List.getElem_toArray, List.getElem_cons_zero, List.getElem_cons_succ]
      refine' wpAnyZ_take (i := 6) (oi := _) (v := _) rfl (by kernel_rfl) (by kernel_rfl) (by kernel_rfl) (by kernel_rfl) (fun _ _ _ h => h) (Or.inl ⟨by rfl, ?hw28⟩) (by assumption) ?rezw28
      case hw28 => (intro w' hSw; (try dsimp only at hSw); go_simp; try with_reducible rfl)
      try simp only [Act.put, List.setIfInBounds_toArray, List.set_cons_zero, List.set_cons_succ, List.getElem_toArray, List.getElem_cons_zero, List.getElem_cons_succ]
      have m9 := HO9.out.at_.all.2.1
      have f9 := (HO9.out.there 1 (by decide)).2
      rw [Nat.zero_add] at f9
      refine wpAnyZ_last (o := _) (by kernel_rfl) rfl (by kernel_rfl) (fun K hK => ?_)
      go_simp
      refine hK _ _ ?_
      clear hK K
      try simp only [Act.put, List.setIfInBounds_toArray, List.set_cons_zero, List.set_cons_succ, List.getElem_toArray, List.getElem_cons_zero, List.getElem_cons_succ]
      obtain ⟨wa, hwa⟩ : ∃ W, W = w9.setCell ⟨g, 1, none⟩ (.slice A9 ((cs1).length + b.cs.length) c9) := ⟨_, rfl⟩
      have hlen : ((cs1) ++ b.cs).length = (cs1).length + b.cs.length := List.length_append
      have HOa := Lib.hid (show Ou w wa g ⟨a.kind, b.right, (cs1) ++ b.cs⟩ A9 c9 by rw [hwa, ← hlen]; exact HO9.out.setCs _ A9 c9)
      have HJa := Lib.hid (show Jn w wa a A ca (sepOf a s) S d b B cb by rw [hwa]; exact HJ9.out.keepB ((Below.refl _ _).setCell (by exact HO9.out.lo) _))
      have HCa := Lib.hid (show OwnCl wa w.heap.size (w.heap.size + 4) A9 ((cs1) ++ b.cs).length c9 ((cs1) ++ b.cs) by
        rw [hlen, hwa]
        exact HC9.out.ty HO9.out.ty (by decide) (by decide) (by have := HO9.out.lo; omega) (fun i hi _ => heap_setG_ne _ _ _ hi))
      have HEQ := Lib.hid (show joinM a s b = ⟨a.kind, b.right, cs1 ++ b.cs⟩ by unfold joinM midJ; rw [if_neg HK1.out, HCS.out])
      have HOK := Lib.hid (show joinOk a s b from ⟨HMAY.out, fun _ => HG.out⟩)
      try rw [← hwa]
      clear hwa hlen HO9 HJ9 HC9 m9 f9 F0 F1
      obtain ⟨mf, hmf⟩ : ∃ x : Nd, (⟨a.kind, b.right, (cs1) ++ b.cs⟩ : Nd) = x := ⟨_, rfl⟩
      have hcf : (cs1) ++ b.cs = mf.cs := by rw [← hmf]
      rw [hcf] at HCa
      rw [hmf] at HOa HEQ
      clear hmf hcf
      go_upto_region 10 with fail
      go_step
      refine wp_load_nd rfl _ rfl g mf A9 c9 rfl HOa.out.at_ ?_
      refine wp_store_nd rfl _ _ rfl (w.heap.size + 3) mf A9 c9 rfl rfl HJa.out.o ?_
      repeat go_step
      refine ret_nd rfl rfl (NdAt.stored HJa.out.o mf A9 c9) rfl ?_
      rw [HR.out]
      refine ⟨below_setCellsR HJa.out.bel (by omega) _ _, .inr ⟨HOK.out, A9, c9, by rw [HEQ.out]; rfl, ?_⟩⟩
      rw [HEQ.out]
      exact (HCa.out.mono (show w.heap.size ≤ w.heap.size + 4 by omega)).ty HJa.out.oty (by decide) (by decide) (by omega) (fun i hi _ => heap_setCells_ne _ _ _ _ hi)
end
end Go.Proofs.Ytoeaffmlolapnaa
