/- Pages of cells: what the deeds do, plain. -/
import Derived.Test.YtoeaffmlolapnaaSlC
namespace Go.Proofs.Ytoeaffmlolapnaa
open Go.RowKit
set_option maxRecDepth 100000
set_option linter.unusedVariables false
set_option linter.unusedSimpArgs false
set_option linter.unnecessarySimpa false

theorem bt_zeros (m x : Nat) : bt (List.replicate m 0) x = 0 := by
  unfold bt
  simp only [List.getD_eq_getElem?_getD, List.getElem?_replicate]
  split <;> rfl
theorem bt_dt (L : List Int) (a m x : Nat) : bt ((L.drop a).take m) x = if x < m then bt L (a + x) else 0 := by
  unfold bt
  simp only [List.getD_eq_getElem?_getD, List.getElem?_take, List.getElem?_drop]
  split <;> rfl
theorem isB_dt {L : List Int} (h : IsB L) (a m : Nat) : IsB ((L.drop a).take m) := fun x hx => h x (List.mem_of_mem_drop (List.mem_of_mem_take hx))
theorem layL_isB {L cs : List Int} (hL : IsB L) (hc : IsB cs) (q : Nat) : IsB (layL L q cs) := splice_isB (splice_isB hL (fxL_isB _ _) _) hc _
/-- A byte of a row onto which a cell was laid. -/
theorem bt_lay {L cs : List Int} {q : Nat} (h : q + 2 + cs.length ≤ L.length) (x : Nat) :
    bt (layL L q cs) x = if q + 2 ≤ x ∧ x < q + 2 + cs.length then bt cs (x - (q + 2)) else if q ≤ x ∧ x < q + 2 then bt (fxL (cs.length : Int) 2) (x - q) else bt L x := by
  have e : (splice L q (fxL (cs.length : Int) 2)).length = L.length := splice_len (by rw [fxL_length]; omega)
  unfold layL
  rw [bt_splice (by rw [e]; exact h), bt_splice (by rw [fxL_length]; omega), fxL_length]
theorem bt_lay_out {L cs : List Int} {q : Nat} (h : q + 2 + cs.length ≤ L.length) {x : Nat} (hx : x < q ∨ q + 2 + cs.length ≤ x) : bt (layL L q cs) x = bt L x := by
  rw [bt_lay h, if_neg (by omega), if_neg (by omega)]
theorem tw_lay_out {L cs : List Int} {q : Nat} (h : q + 2 + cs.length ≤ L.length) {x : Nat} (hx : x + 2 ≤ q ∨ q + 2 + cs.length ≤ x) : tw (layL L q cs) x = tw L x := by
  unfold tw
  rw [bt_lay_out h (by omega), bt_lay_out h (by omega)]
theorem tw_lay {L cs : List Int} {q : Nat} (h : q + 2 + cs.length ≤ L.length) (hc : cs.length ≤ 65535) : tw (layL L q cs) q = (cs.length : Int) := by
  obtain ⟨a, b⟩ := bt_fx2 (v := (cs.length : Int)) (by omega) (by omega)
  unfold tw
  rw [bt_lay h, bt_lay h, if_neg (by omega), if_pos (by omega), if_neg (by omega), if_pos (by omega), Nat.sub_self, show q + 1 - q = 1 by omega, a, b]
  omega
theorem bt_lay_in {L cs : List Int} {q : Nat} (h : q + 2 + cs.length ≤ L.length) {t : Nat} (ht : t < cs.length) : bt (layL L q cs) (q + 2 + t) = bt cs t := by
  rw [bt_lay h, if_pos (by omega), show q + 2 + t - (q + 2) = t by omega]
theorem bt_set_out {L : List Int} {v : Int} {i : Nat} (h : i + 2 ≤ L.length) {x : Nat} (hx : x < i ∨ i + 2 ≤ x) : bt (splice L i (fxL v 2)) x = bt L x := by
  rw [bt_splice (by rw [fxL_length]; exact h), fxL_length, if_neg (by omega)]
theorem tw_set_out {L : List Int} {v : Int} {i : Nat} (h : i + 2 ≤ L.length) {x : Nat} (hx : x + 2 ≤ i ∨ i + 2 ≤ x) : tw (splice L i (fxL v 2)) x = tw L x :=
  tw_out (by rw [fxL_length]; exact h) (by rw [fxL_length]; exact hx)
theorem set_len {L : List Int} {v : Int} {i : Nat} (h : i + 2 ≤ L.length) : (splice L i (fxL v 2)).length = L.length := splice_len (by rw [fxL_length]; exact h)

/-! ### packed -/
def Mdl.pk (M : Mdl) (i : Nat) : Nat := M.n - sz (M.C.take (i + 1))
def Mdl.pack (M : Mdl) : Mdl := { M with P := (List.range M.k).map M.pk }
theorem pack_pl {M : Mdl} {j : Nat} (h : j < M.k) : M.pack.pl j = M.pk j := by simp [Mdl.pack, Mdl.pl, h]
theorem pack_k (M : Mdl) : M.pack.k = M.k := rfl
theorem pack_h (M : Mdl) : M.pack.h = M.h := rfl
theorem pack_cl (M : Mdl) (j : Nat) : M.pack.cl j = M.cl j := rfl
theorem pk_eq {M : Mdl} (g : Good M) {j : Nat} (h : j < M.k) : M.pk j + 2 + (M.cl j).length = M.n - sz (M.C.take j) ∧ M.used M.k ≤ M.pk j ∧ sz (M.C.take j) ≤ M.n := by
  have e := sz_take (C := M.C) (i := j) h
  have e2 : M.C.getD j [] = M.cl j := rfl
  rw [e2] at e
  have h1 := sz_take_le M.C (j + 1)
  have h2 := g.room'
  unfold Mdl.pk
  omega
theorem pk_anti {M : Mdl} (g : Good M) {i j : Nat} (h : i < j) (hj : j < M.k) : M.pk j + 2 + (M.cl j).length ≤ M.pk i := by
  have h1 := pk_eq g hj
  have h2 : sz (M.C.take (i + 1)) ≤ sz (M.C.take j) := by
    have := sz_take_le (M.C.take j) (i + 1)
    rwa [List.take_take, Nat.min_eq_left (by omega)] at this
  unfold Mdl.pk at *
  omega
theorem Good.packed {M : Mdl} (g : Good M) : Good M.pack where
  n0 := g.n0
  n1 := g.n1
  h1 := g.h1
  same := by simp [Mdl.pack, Mdl.k]
  fit := g.fit
  lo := fun j hj => by rw [pack_pl (M := M) hj]; exact (pk_eq g hj).2.1
  hi := fun j hj => by
    rw [pack_pl (M := M) hj, pack_cl]
    have := pk_eq g hj
    show M.pk j + 2 + (M.cl j).length ≤ M.n
    omega
  apart := fun i j hij hj => by
    have hj' : j < M.k := hj
    rw [pack_pl hj', pack_pl (show i < M.k by omega), pack_cl, pack_cl]
    exact .inr (pk_anti g hij hj')
  fb := g.fb
  cb := g.cb
  room := g.room
structure PkS (L : List Int) (M : Mdl) (j : Nat) : Prop where
  len : L.length = M.n
  byts : IsB L
  front : ∀ i, i < M.h → bt L i = bt M.F i
  many : tw L M.h = (M.k : Int)
  slots : ∀ i, i < j → tw L (M.h + 2 + 2 * i) = (M.pk i : Int)
  lens : ∀ i, i < j → tw L (M.pk i) = ((M.cl i).length : Int)
  body : ∀ i, i < j → ∀ t, t < (M.cl i).length → bt L (M.pk i + 2 + t) = bt (M.cl i) t
  zero : ∀ x, M.used M.k ≤ x → x < M.n - sz (M.C.take j) → bt L x = 0
theorem PkS.start {L : List Int} {M : Mdl} (g : Good M) (p : IsP L M) : PkS (splice L (M.used M.k) (List.replicate (M.n - M.used M.k) 0)) M 0 := by
  have hf := g.fit
  have hl : M.used M.k + (List.replicate (M.n - M.used M.k) (0 : Int)).length ≤ L.length := by rw [List.length_replicate, p.len]; omega
  have hu : M.used M.k = M.h + 2 + 2 * M.k := rfl
  refine ⟨by rw [splice_len hl, p.len], splice_isB p.byts (fun x hx => by rw [List.eq_of_mem_replicate hx]; omega) _, fun i hi => ?_, ?_, fun i hi => by omega, fun i hi => by omega, fun i hi => by omega, fun x h1 h2 => ?_⟩
  · rw [bt_splice hl, if_neg (by omega), p.front i hi]
  · rw [tw_out hl (by omega), p.many]
  · have h3 : x < M.n := by omega
    rw [bt_splice hl, if_pos (by rw [List.length_replicate]; omega), bt_zeros]
theorem PkS.step {L : List Int} {M : Mdl} (g : Good M) {j : Nat} (hj : j < M.k) (p : PkS L M j) :
    PkS (splice (layL L (M.pk j) (M.cl j)) (M.h + 2 + 2 * j) (fxL (M.pk j : Int) 2)) M (j + 1) := by
  obtain ⟨e1, e2, e3⟩ := pk_eq g hj
  have hu : M.used M.k = M.h + 2 + 2 * M.k := rfl
  have hn1 := g.n1
  have hl : M.pk j + 2 + (M.cl j).length ≤ L.length := by rw [p.len]; omega
  have hl2 := layL_len hl
  have hs : M.h + 2 + 2 * j + 2 ≤ (layL L (M.pk j) (M.cl j)).length := by rw [hl2, p.len]; omega
  refine ⟨by rw [set_len hs, hl2, p.len], splice_isB (layL_isB p.byts (Mdl.cl_isB g j) _) (fxL_isB _ _) _, fun i hi => ?_, ?_, fun i hi => ?_, fun i hi => ?_, fun i hi t ht => ?_, fun x h1 h2 => ?_⟩
  · rw [bt_set_out hs (by omega), bt_lay_out hl (by omega), p.front i hi]
  · rw [tw_set_out hs (by omega), tw_lay_out hl (by omega), p.many]
  · by_cases h : i = j
    · subst h
      exact tw_set (by omega) (by omega) hs
    · rw [tw_set_out hs (by omega), tw_lay_out hl (by omega), p.slots i (by omega)]
  · by_cases h : i = j
    · subst h
      rw [tw_set_out hs (by omega), tw_lay hl (by omega)]
    · have h1 := pk_anti g (show i < j by omega) hj
      have h2 := (pk_eq g (show i < M.k by omega)).2.1
      rw [tw_set_out hs (by omega), tw_lay_out hl (by omega), p.lens i (by omega)]
  · by_cases h : i = j
    · subst h
      rw [bt_set_out hs (by omega), bt_lay_in hl ht]
    · have h1 := pk_anti g (show i < j by omega) hj
      rw [bt_set_out hs (by omega), bt_lay_out hl (by omega), p.body i (by omega) t ht]
  · have e4 : M.n - sz (M.C.take (j + 1)) = M.pk j := rfl
    rw [e4] at h2
    rw [bt_set_out hs (by omega), bt_lay_out hl (by omega), p.zero x h1 (by omega)]
theorem PkS.done {L : List Int} {M : Mdl} (g : Good M) (p : PkS L M M.k) : IsP L M.pack where
  len := p.len
  byts := p.byts
  front := p.front
  many := p.many
  slots := fun j hj => by rw [pack_pl (M := M) hj]; exact p.slots j hj
  lens := fun j hj => by rw [pack_pl (M := M) hj]; exact p.lens j hj
  body := fun j hj t ht => by rw [pack_pl (M := M) hj]; exact p.body j hj t ht
  zero := fun x h1 h2 h3 => by
    have h1' : M.used M.k ≤ x := h1
    by_cases h4 : x < M.n - sz (M.C.take M.k)
    · exact p.zero x h1' h4
    · exfalso
      -- x lies in some cell: the cells stand side by side
      have key : ∀ j, j ≤ M.k → M.n - sz (M.C.take j) ≤ x → False := by
        intro j
        induction j with
        | zero => intro _ h; simp [sz] at h; have h2' : x < M.n := h2; omega
        | succ j ih =>
          intro hj h
          have hj' : j < M.k := by omega
          have e := pk_eq g hj'
          have h5 := h3 j hj'
          rw [pack_pl hj', pack_cl] at h5
          have e4 : M.n - sz (M.C.take (j + 1)) = M.pk j := rfl
          rw [e4] at h
          exact ih (by omega) (by omega)
      exact key M.k (Nat.le_refl _) (by omega)
end Go.Proofs.Ytoeaffmlolapnaa
