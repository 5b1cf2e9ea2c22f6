/- Cells that are read: plain; walks: (*cell.reader).next, form. -/
import Derived.Test.YtoeaffmlolapnaaClC
import Derived.Test.YtoeaffmlolapnaaNumD
import Derived.BigQuiet
import Derived.Deep.QuietTactic
namespace Go.Proofs.Ytoeaffmlolapnaa
open Go.RowKit
set_option maxRecDepth 100000

/-- The next number, from lo to hi, or what is wrong with it. -/
def wn (l : List Int) (at_ lo hi : Int) : Int × Int × Int :=
  if (unvL l at_).2.2 ≠ 0 then (0, 0, (unvL l at_).2.2) else if (unvL l at_).1 < lo ∨ hi < (unvL l at_).1 then (0, 0, 8) else ((unvL l at_).1, (unvL l at_).2.1, 0)
structure Py where
  (total spill : Int)
  loc : List Int
  (at_ e : Int)
def py0 (e : Int) : Py := ⟨0, 0, [], 0, e⟩
def payD (l : List Int) (at_ : Int) : Py :=
  if (wn l at_ 0 16384).2.2 ≠ 0 then py0 (wn l at_ 0 16384).2.2 else
  if (wn l (wn l at_ 0 16384).2.1 0 (wn l at_ 0 16384).1).2.2 ≠ 0 then py0 (wn l (wn l at_ 0 16384).2.1 0 (wn l at_ 0 16384).1).2.2 else
  let t := (wn l at_ 0 16384).1
  let n := (wn l (wn l at_ 0 16384).2.1 0 (wn l at_ 0 16384).1).1
  let p := (wn l (wn l at_ 0 16384).2.1 0 (wn l at_ 0 16384).1).2.1
  if (l.length : Int) - p < n then py0 6 else
  if n = t then ⟨t, 0, (l.drop p.toNat).take n.toNat, p + n, 0⟩ else
  if (wn l (p + n) 1 1048576).2.2 ≠ 0 then py0 (wn l (p + n) 1 1048576).2.2 else
  ⟨t, (wn l (p + n) 1 1048576).1, (l.drop p.toNat).take n.toNat, (wn l (p + n) 1 1048576).2.1, 0⟩
def childD (k : Int) (l : List Int) : Int × Int × Int := if hasC k then wn l 0 1 1048576 else (0, 0, 0)
def keyD (k : Int) (l : List Int) (at_ : Int) : Int × Int × Int := if hasK k then unvL l at_ else (0, at_, 0)
def loadD (k : Int) (l : List Int) (at_ : Int) : Py := if k = 2 then ⟨0, 0, [], at_, 0⟩ else payD l at_
def decC (k : Int) (l : List Int) : Cl × Int :=
  if ¬ isK k then (zeroC, 1) else
  if (childD k l).2.2 ≠ 0 then (zeroC, (childD k l).2.2) else
  if (keyD k l (childD k l).2.1).2.2 ≠ 0 then (zeroC, (keyD k l (childD k l).2.1).2.2) else
  let y := loadD k l (keyD k l (childD k l).2.1).2.1
  if y.e ≠ 0 then (zeroC, y.e) else
  if y.at_ ≠ (l.length : Int) then (zeroC, 8) else
  (⟨(keyD k l (childD k l).2.1).1, (childD k l).1, y.total, y.spill, y.loc⟩, 0)

/-- A reader lies in a block. -/
def RrAt (w : World) (g : Nat) (A : Option Addr) (n c : Nat) (at_ e : Int) : Prop :=
  (w.cell? ⟨g, 0, none⟩ = some (.slice A n c) ∧ w.cell? ⟨g, 1, none⟩ = some (.int .i64 at_) ∧ w.cell? ⟨g, 2, none⟩ = some (.int .i64 e)) ∧ (w.frozen? ⟨g, 1, none⟩ = false ∧ w.frozen? ⟨g, 2, none⟩ = false)
/-- One block alone may have changed. -/
structure Only (g : Nat) (w w' : World) : Prop where
  os : w'.os = w.os
  tape : w'.tape = w.tape
  output : w'.output = w.output
  size : w'.heap.size = w.heap.size
  block : ∀ i, i ≠ g → w'.heap[i]? = w.heap[i]?
theorem Only.refl (g : Nat) (w : World) : Only g w w := ⟨rfl, rfl, rfl, rfl, fun _ _ => rfl⟩
theorem Only.trans {g : Nat} {a b c : World} (h : Only g a b) (k : Only g b c) : Only g a c := ⟨k.os.trans h.os, k.tape.trans h.tape, k.output.trans h.output, k.size.trans h.size, fun i hi => (k.block i hi).trans (h.block i hi)⟩
theorem Only.drewN {g : Nat} {a b : World} (h : Only g a b) (n : Nat) : Only g a (b.drewN n) := ⟨h.os, h.tape, h.output, h.size, h.block⟩
theorem Only.setCell {g : Nat} {a b : World} (h : Only g a b) (o : Nat) (v : Value) : Only g a (b.setCell ⟨g, o, none⟩ v) :=
  ⟨h.os, h.tape, h.output, (by simpa [World.setCell] using h.size), fun i hi => by
    rw [← h.block i hi]
    simp [World.setCell, Array.getElem?_modify, Ne.symm hi]⟩
theorem Only.below {g B : Nat} {w w' : World} (h : Only g w w') (hB : B ≤ g) : Below B w w' := ⟨h.os, h.tape, h.output, Nat.le_of_eq h.size.symm, fun i hi => h.block i (by omega)⟩
theorem Only.cell {g : Nat} {w w' : World} (h : Only g w w') {a : Addr} (ha : a.block ≠ g) : w'.cell? a = w.cell? a := World.cell?_of_block (h.block _ ha)
theorem Only.frozen {g : Nat} {w w' : World} (h : Only g w w') {a : Addr} (ha : a.block ≠ g) : w'.frozen? a = w.frozen? a := World.frozen?_of_block (h.block _ ha)
theorem RrAt.setAt {w : World} {g : Nat} {A : Option Addr} {n c : Nat} {at_ e : Int} (h : RrAt w g A n c at_ e) (x : Int) : RrAt (w.setCell ⟨g, 1, none⟩ (.int .i64 x)) g A n c x e :=
  ⟨⟨(World.cell?_setCell_other _ _ _ _ (by simp)).trans h.1.1, World.cell?_setCell_same _ _ _ h.1.2.1, (World.cell?_setCell_other _ _ _ _ (by simp)).trans h.1.2.2⟩, by rw [World.frozen?_setCell]; exact h.2.1, by rw [World.frozen?_setCell]; exact h.2.2⟩
theorem RrAt.setE {w : World} {g : Nat} {A : Option Addr} {n c : Nat} {at_ e : Int} (h : RrAt w g A n c at_ e) (x : Int) : RrAt (w.setCell ⟨g, 2, none⟩ (.int .i64 x)) g A n c at_ x :=
  ⟨⟨(World.cell?_setCell_other _ _ _ _ (by simp)).trans h.1.1, (World.cell?_setCell_other _ _ _ _ (by simp)).trans h.1.2.1, World.cell?_setCell_same _ _ _ h.1.2.2⟩, by rw [World.frozen?_setCell]; exact h.2.1, by rw [World.frozen?_setCell]; exact h.2.2⟩
theorem RrAt.drewN {w : World} {g : Nat} {A : Option Addr} {n c : Nat} {at_ e : Int} (h : RrAt w g A n c at_ e) (k : Nat) : RrAt (w.drewN k) g A n c at_ e := h

/-- What next tells, where nothing is wrong yet. -/
theorem next_any (w : World) (g : Nat) (A : Option Addr) (n c : Nat) (l : List Int) (at_ : Int) (hR : RrAt w g A n c at_ 0) (hn : l.length = n) (hnc : n ≤ c) (hcm : c ≤ maxLen) (hA : Rd w A l) (hB : IsB l) (ha : -9223372036854775808 ≤ at_ ∧ at_ ≤ 9223372036854775807) (R : Ending → World → Prop)
    (hP : R = fun e w' => ∃ at' e', e = .returned (.int .i64 (if (unvL l at_).2.2 ≠ 0 then 0 else (unvL l at_).1)) ∧ RrAt w' g A n c at' e' ∧ e' = (unvL l at_).2.2 ∧ ((unvL l at_).2.2 = 0 → at' = (unvL l at_).2.1) ∧ Only g w w') :
    Calls Try.prog 73 #[.pointer (some ⟨g, 0, none⟩)] w R := by
  have HP := Lib.hid hP; clear hP
  have HR := Lib.hid hR
  obtain ⟨⟨r0, r1, r2⟩, f1, f2⟩ := hR
  have HN := Lib.hid hn; clear hn
  have HA := Lib.hid hA; clear hA
  have HB := Lib.hid hB; clear hB
  go_enter Try.func73, Try.ntmps73
  obtain ⟨⟨v, p, z⟩, hU⟩ : ∃ U, unvL l at_ = U := ⟨_, rfl⟩
  have HU := Lib.hid hU; clear hU
  have HC := Lib.hid (show ∀ j, Calls Try.prog 106 #[.slice A n c, .int .i64 at_] (w.drewN j) fun e w' => e = .returned (.tuple #[.int .i64 v, .int .i64 p, .int .i64 z]) ∧ ∃ x, w' = (w.drewN j).drewN x from fun j => by
    have h := unv_any (w.drewN j) A n c l at_ HN.out hnc hcm (HA.out.keep (below_drewN (Below.refl _ _) _)) HB.out ha
    rw [HU.out] at h
    exact h.mono (fun e w' hh => ⟨hh.1, 0, by rw [← hh.2]; rfl⟩))
  go_upto_region 3 with fail
  go_quiet ((go_at_call 106; exact Calls.quiet_of (HC.out _)))
  have HRq := Lib.hid (HR.out.drewN nq)
  by_cases hz : z = 0
  · subst hz
    go_wp2
    rw [HP.out]
    exact ⟨p, 0, by rw [HU.out]; rfl, HRq.out.setAt p, by rw [HU.out], by rw [HU.out]; simp, ((Only.refl g w).drewN nq).setCell 1 _⟩
  · have hzb : (z != 0) = true := by simp [hz]
    go_wp2
    rw [HP.out]
    exact ⟨at_, z, by rw [HU.out]; simp [hz], HRq.out.setE z, by rw [HU.out], by rw [HU.out]; simp [hz], ((Only.refl g w).drewN nq).setCell 2 _⟩

/-- What next tells, where something is wrong already. -/
theorem next_bad (w : World) (g : Nat) (A : Option Addr) (n c : Nat) (at_ e0 : Int) (hR : RrAt w g A n c at_ e0) (he : e0 ≠ 0) :
    Calls Try.prog 73 #[.pointer (some ⟨g, 0, none⟩)] w fun e w' => e = .returned (.int .i64 0) ∧ w = w' := by
  obtain ⟨⟨r0, r1, r2⟩, f1, f2⟩ := hR
  have hb : (e0 != 0) = true := by simp [he]
  go_enter Try.func73, Try.ntmps73
  go_wp2
  go_ret
  exact ⟨rfl, rfl⟩

theorem form_ok (w : World) (g : Nat) (A : Option Addr) (n c : Nat) (at_ e0 : Int) (hR : RrAt w g A n c at_ e0) :
    Calls Try.prog 74 #[.pointer (some ⟨g, 0, none⟩), .bool true] w fun e w' => e = .returned (.tuple #[]) ∧ w = w' := by
  obtain ⟨⟨r0, r1, r2⟩, f1, f2⟩ := hR
  by_cases he : e0 = 0
  · subst he
    go_enter Try.func74, Try.ntmps74
    go_wp2
    go_end0
    exact ⟨rfl, rfl⟩
  · have hb : (e0 == 0) = false := by simp [he]
    go_enter Try.func74, Try.ntmps74
    go_wp2
    go_end0
    exact ⟨rfl, rfl⟩
theorem form_no (w : World) (g : Nat) (A : Option Addr) (n c : Nat) (at_ : Int) (hR : RrAt w g A n c at_ 0) :
    Calls Try.prog 74 #[.pointer (some ⟨g, 0, none⟩), .bool false] w fun e w' => e = .returned (.tuple #[]) ∧ w' = w.setCell ⟨g, 2, none⟩ (.int .i64 8) := by
  obtain ⟨⟨r0, r1, r2⟩, f1, f2⟩ := hR
  go_enter Try.func74, Try.ntmps74
  go_wp2
  go_end0
  exact ⟨rfl, rfl⟩
theorem form_bad (w : World) (g : Nat) (A : Option Addr) (n c : Nat) (at_ e0 : Int) (b : Bool) (hR : RrAt w g A n c at_ e0) (he : e0 ≠ 0) :
    Calls Try.prog 74 #[.pointer (some ⟨g, 0, none⟩), .bool b] w fun e w' => e = .returned (.tuple #[]) ∧ w = w' := by
  obtain ⟨⟨r0, r1, r2⟩, f1, f2⟩ := hR
  have hb : (e0 == 0) = false := by simp [he]
  go_enter Try.func74, Try.ntmps74
  go_wp2
  go_end0
  exact ⟨rfl, rfl⟩
end Go.Proofs.Ytoeaffmlolapnaa
