/- Several texts of this proof as one: NdX, NdY, NdZ, NeA, NeB. Laid by merge.py. -/
import Derived.Test.YtoeaffmlolapnaaNpA
import Derived.Test.YtoeaffmlolapnaaNpB
import Derived.Test.YtoeaffmlolapnaaNpC
import Derived.Test.YtoeaffmlolapnaaNpD
import Derived.Test.YtoeaffmlolapnaaNpE
import Derived.Test.YtoeaffmlolapnaaNpF
import Derived.Test.YtoeaffmlolapnaaNpG
import Derived.Test.YtoeaffmlolapnaaNpH
import Derived.Test.YtoeaffmlolapnaaNpI
import Derived.Test.YtoeaffmlolapnaaNpJ
import Derived.Test.YtoeaffmlolapnaaNpK
import Derived.Test.YtoeaffmlolapnaaNpL
import Derived.Test.YtoeaffmlolapnaaNpM
import Derived.Test.YtoeaffmlolapnaaNpN
import Derived.Test.YtoeaffmlolapnaaNpO
import Derived.Test.YtoeaffmlolapnaaNpP
import Derived.Test.YtoeaffmlolapnaaNpQ
import Derived.Test.YtoeaffmlolapnaaNpR
import Derived.ArgAppend
import Derived.BigQuiet
import Derived.ChangeOld
import Derived.Deep.DeepCutAuto
import Derived.Deep.Matrix
import Derived.Deep.MidRow
import Derived.Deep.QuietTactic
import Derived.Deep.RegionHeld3
import Derived.Deep.Slices
import Derived.Handy
import Derived.Laws.CopyOwn
import Derived.Laws.Externs
import Derived.Laws.ResultCell
import Derived.Lib.AppendStr
import Derived.Lib.Hide
import Derived.Lib.MakeNoZero
import Derived.Lib.SlBuf
import Derived.Lib.SliceRun
import Derived.Lib.SmallJoins
import Derived.Maps.AppendAt
import Derived.OpenShut
import Derived.ProofKit
import Derived.ShutString
import Derived.SizedLaws
import Derived.Test.YtoeaffmlolapnaaProg
import Derived.WalkKit
import Derived.WalkSpells
namespace Go.Proofs.Ytoeaffmlolapnaa
section
open Go.RowKit
set_option maxRecDepth 100000
set_option linter.unusedVariables false
set_option linter.unusedSimpArgs false
set_option linter.unnecessarySimpa false
def sgC (cs : List Cl) (a b : Nat) : List Cl := (cs.drop a).take (b - a)
theorem sgC_len {cs : List Cl} {a b : Nat} (h : b ≤ cs.length) : (sgC cs a b).length = b - a := by
  unfold sgC
  rw [List.length_take, List.length_drop]
  omega
theorem sgC_app {cs : List Cl} {a b c : Nat} (h1 : a ≤ b) (h2 : b ≤ c) : sgC cs a b ++ sgC cs b c = sgC cs a c := by
  unfold sgC
  have e : cs.drop b = (cs.drop a).drop (b - a) := by rw [List.drop_drop, show a + (b - a) = b by omega]
  rw [e, show c - a = (b - a) + (c - b) by omega, List.take_add]
theorem sgC_one {cs : List Cl} {b : Nat} (h : b < cs.length) : sgC cs b (b + 1) = [cl_ cs b] := by
  unfold sgC
  rw [show b + 1 - b = 1 by omega, List.drop_eq_getElem_cons h, cl_lt h]
  rfl
theorem sgC_all (cs : List Cl) : sgC cs 0 cs.length = cs := by simp [sgC]
theorem sgC_mem {cs : List Cl} {a b : Nat} {c : Cl} (h : c ∈ sgC cs a b) : c ∈ cs := List.mem_of_mem_drop (List.mem_of_mem_take h)
theorem sgC_get {cs : List Cl} {a b i : Nat} (h : i < b - a) (hb : b ≤ cs.length) : cl_ (sgC cs a b) i = cl_ cs (a + i) := by
  unfold sgC cl_
  simp only [List.getD_eq_getElem?_getD, List.getElem?_take, List.getElem?_drop, if_pos h]
theorem takes_mono {k : Int} {cs : List Cl} {a a' b b' : Nat} (h1 : a' ≤ a) (h2 : a ≤ b) (h3 : b ≤ b') : takesN k (sgC cs a b) ≤ takesN k (sgC cs a' b') := by
  have e1 := sgC_app (cs := cs) h1 (Nat.le_trans h2 h3)
  have e2 := sgC_app (cs := cs) h2 h3
  have q1 := congrArg (takesN k) e1
  have q2 := congrArg (takesN k) e2
  rw [takesN_app] at q1 q2
  omega
theorem takes_le {k : Int} {q : Nat} : ∀ {cs : List Cl}, (∀ c ∈ cs, tkC k c ≤ q) → takesN k cs ≤ cs.length * q
  | [], _ => by simp [takesN]
  | c :: cs, h => by
    have h1 := takes_le (cs := cs) (fun d hd => h d (List.mem_cons_of_mem _ hd))
    have h2 := h c (List.mem_cons_self ..)
    have e : takesN k (c :: cs) = tkC k c + takesN k cs := by simp [takesN]
    rw [e, List.length_cons, Nat.add_mul, Nat.one_mul]
    omega
def rtI (n : Nd) (b : Nat) : Int := if n.kind = 1 ∨ b = n.cs.length then n.right else (cl_ n.cs b).child
def nodeI (n : Nd) (a b : Nat) : Nd := ⟨n.kind, rtI n b, sgC n.cs a b⟩
def sepI (n : Nd) (b : Nat) : Cl := if n.kind = 1 then { zeroC with key := (cl_ n.cs (b - 1)).key } else { cl_ n.cs b with child := 0 }
def nxt (n : Nd) (b : Nat) : Nat := if n.kind = 1 then b else b + 1
theorem nxt_le (n : Nd) (b : Nat) : b ≤ nxt n b ∧ nxt n b ≤ b + 1 := by unfold nxt; split <;> omega
theorem nodeI_all (n : Nd) : nodeI n 0 n.cs.length = n := by
  unfold nodeI rtI
  rw [sgC_all, if_pos (.inr rfl)]
theorem nodeI_may {n : Nd} (hm : mayN n) {a b : Nat} (hb : b ≤ n.cs.length) : mayN (nodeI n a b) := by
  refine ⟨⟨hm.1.1, ?_⟩, fun c hc => hm.2 c (sgC_mem hc)⟩
  show (hasC n.kind → isP (rtI n b)) ∧ (¬ hasC n.kind → rtI n b = 0)
  unfold rtI
  split
  · exact hm.1.2
  · rename_i h
    have hlt : b < n.cs.length := by
      have : b ≠ n.cs.length := fun e => h (.inr e)
      omega
    have hg := hm.2 (cl_ n.cs b) (by rw [cl_lt hlt]; exact List.getElem_mem hlt)
    exact ⟨hg.2.1, hg.2.2.1⟩
theorem join_seg {n : Nd} (hm : mayN n) {a b b2 : Nat} (h : a ≤ b) (hb : b < n.cs.length) (h2 : nxt n b ≤ b2) (hb2 : b2 ≤ n.cs.length) :
    joinOk (nodeI n a b) (sepI n b) (nodeI n (nxt n b) b2) ∧ joinM (nodeI n a b) (sepI n b) (nodeI n (nxt n b) b2) = nodeI n a b2 := by
  have hmem : cl_ n.cs b ∈ n.cs := by rw [cl_lt hb]; exact List.getElem_mem hb
  by_cases hk : n.kind = 1
  · have e : nxt n b = b := by unfold nxt; rw [if_pos hk]
    rw [e] at h2 ⊢
    refine ⟨⟨⟨nodeI_may hm (Nat.le_of_lt hb), nodeI_may hm hb2, rfl⟩, fun q => absurd hk q⟩, ?_⟩
    unfold joinM midJ
    rw [if_pos (show (nodeI n a b).kind = 1 from hk), List.append_nil]
    show (⟨n.kind, rtI n b2, sgC n.cs a b ++ sgC n.cs b b2⟩ : Nd) = _
    rw [sgC_app h h2]
    rfl
  · have e : nxt n b = b + 1 := by unfold nxt; rw [if_neg hk]
    have es : sepOf (nodeI n a b) (sepI n b) = cl_ n.cs b := by
      unfold sepOf sepI
      rw [if_neg hk]
      have : (nodeI n a b).right = (cl_ n.cs b).child := by
        show rtI n b = _
        unfold rtI
        rw [if_neg (by rintro (q | q); exact hk q; omega)]
      rw [this]
    rw [e] at h2 ⊢
    refine ⟨⟨⟨nodeI_may hm (Nat.le_of_lt hb), nodeI_may hm hb2, rfl⟩, fun _ => ?_⟩, ?_⟩
    · rw [es]; exact hm.2 _ hmem
    · unfold joinM midJ
      rw [if_neg (show ¬ (nodeI n a b).kind = 1 from hk), es, ← sgC_one hb]
      show (⟨n.kind, rtI n b2, sgC n.cs a b ++ sgC n.cs b (b + 1) ++ sgC n.cs (b + 1) b2⟩ : Nd) = _
      rw [sgC_app h (by omega), sgC_app (by omega) h2]
      rfl

def PairOk (n : Nd) (most : Nat) (p : Nat × Nat) : Prop :=
  p.1 < p.2 ∧ p.2 ≤ n.cs.length ∧ takesN n.kind (sgC n.cs p.1 p.2) ≤ most ∧ (p.2 < n.cs.length → nxt n p.2 + 1 ≤ n.cs.length ∧ most < takesN n.kind (sgC n.cs p.1 (nxt n p.2 + 1)))
def pr (ps : List (Nat × Nat)) (i : Nat) : Nat × Nat := ps.getD i (0, 0)
theorem pr_app (ps : List (Nat × Nat)) (p : Nat × Nat) (i : Nat) : pr (ps ++ [p]) i = if i < ps.length then pr ps i else if i = ps.length then p else (0, 0) := by
  unfold pr
  simp only [List.getD_eq_getElem?_getD]
  by_cases h : i < ps.length
  · rw [if_pos h, List.getElem?_append_left h]
  · rw [if_neg h, List.getElem?_append_right (by omega)]
    by_cases h2 : i = ps.length
    · rw [if_pos h2, h2]; simp
    · rw [if_neg h2]
      rw [show ([p] : List (Nat × Nat))[i - ps.length]? = none from List.getElem?_eq_none (by simp; omega)]
      rfl
def goOn (n : Nd) (b : Nat) : Nat := if b < n.cs.length then nxt n b else b
/-- The parts that were made, and where the next one begins. -/
def Chain (n : Nd) (most : Nat) (ps : List (Nat × Nat)) (a : Nat) : Prop :=
  (∀ i, i < ps.length → PairOk n most (pr ps i)) ∧ (0 < ps.length → (pr ps 0).1 = 0) ∧ (∀ i, i + 1 < ps.length → (pr ps (i + 1)).1 = nxt n (pr ps i).2 ∧ (pr ps i).2 < n.cs.length) ∧
    (ps.length = 0 → a = 0) ∧ (0 < ps.length → a = goOn n (pr ps (ps.length - 1)).2)
theorem Chain.nil (n : Nd) (most : Nat) : Chain n most [] 0 := ⟨fun i h => by simp at h, fun h => by simp at h, fun i h => by simp at h, fun _ => rfl, fun h => by simp at h⟩
theorem Chain.step {n : Nd} {most : Nat} {ps : List (Nat × Nat)} {a b : Nat} (h : Chain n most ps a) (ha : a < n.cs.length) (hp : PairOk n most (a, b)) : Chain n most (ps ++ [(a, b)]) (goOn n b) := by
  obtain ⟨h1, h2, h3, h4, h5⟩ := h
  have hl : (ps ++ [(a, b)]).length = ps.length + 1 := by simp
  refine ⟨fun i hi => ?_, fun _ => ?_, fun i hi => ?_, fun q => by rw [hl] at q; omega, fun _ => ?_⟩
  · rw [pr_app]
    rw [hl] at hi
    by_cases hlt : i < ps.length
    · rw [if_pos hlt]; exact h1 i hlt
    · rw [if_neg hlt, if_pos (by omega)]; exact hp
  · rw [pr_app]
    by_cases hlt : 0 < ps.length
    · rw [if_pos hlt]; exact h2 hlt
    · rw [if_neg hlt, if_pos (by omega)]; exact h4 (by omega)
  · rw [hl] at hi
    rw [pr_app, pr_app]
    by_cases hlt : i + 1 < ps.length
    · rw [if_pos hlt, if_pos (by omega)]; exact h3 i hlt
    · rw [if_neg hlt, if_pos (by omega), if_pos (by omega)]
      have h6 := h5 (by omega)
      rw [show ps.length - 1 = i by omega] at h6
      have h7 := (h1 i (by omega)).2.1
      unfold goOn at h6
      split at h6
      · rename_i q; exact ⟨h6, q⟩
      · rename_i q; exact absurd ha (by omega)
  · rw [hl, pr_app, if_neg (by omega), if_pos (by omega)]
/-- What a run of cells is. -/
def IsRun (k : Int) (most : Nat) (l : List Cl) (r : Nat) : Prop := r ≤ l.length ∧ takesN k (l.take r) ≤ most ∧ (r < l.length → most < takesN k (l.take (r + 1)))
theorem pair_run {n : Nd} {most q a r : Nat} (hq : ∀ c ∈ n.cs, tkC n.kind c ≤ q) (h4 : 4 * q ≤ most) (ha : a < n.cs.length) (hr : IsRun n.kind most (n.cs.drop a) r) (t : Nat) (ht : t = if a + r < n.cs.length ∧ n.kind ≠ 1 ∧ a + r + 1 = n.cs.length then a + r - 1 else a + r) :
    PairOk n most (a, t) := by
  obtain ⟨r1, r2, r3⟩ := hr
  rw [List.length_drop] at r1 r3
  have e1 : takesN n.kind (sgC n.cs a (a + r)) ≤ most := by unfold sgC; rw [show a + r - a = r by omega]; exact r2
  have e3 : a + r < n.cs.length → most < takesN n.kind (sgC n.cs a (a + r + 1)) := fun h => by
    have := r3 (by omega)
    unfold sgC
    rwa [show a + r + 1 - a = r + 1 by omega]
  have hr4 : a + r < n.cs.length → 4 ≤ r := fun h => by
    have h1 := e3 h
    have h2 := takes_le (k := n.kind) (q := q) (cs := sgC n.cs a (a + r + 1)) (fun c hc => hq c (sgC_mem hc))
    rw [sgC_len (by omega), show a + r + 1 - a = r + 1 by omega] at h2
    by_cases h5 : r < 4
    · have : (r + 1) * q ≤ 4 * q := Nat.mul_le_mul_right _ (by omega)
      omega
    · omega
  by_cases hd : a + r < n.cs.length ∧ n.kind ≠ 1 ∧ a + r + 1 = n.cs.length
  · rw [if_pos hd] at ht
    have hr := hr4 hd.1
    have e := e3 hd.1
    have hx : nxt n t = t + 1 := by unfold nxt; rw [if_neg hd.2.1]
    refine ⟨by show a < t; omega, by show t ≤ _; omega, Nat.le_trans (takes_mono (Nat.le_refl _) (by show a ≤ t; omega) (by show t ≤ a + r; omega)) e1, fun _ => ?_⟩
    show nxt n t + 1 ≤ _ ∧ most < takesN n.kind (sgC n.cs a (nxt n t + 1))
    rw [hx, show t + 1 + 1 = a + r + 1 by omega]
    exact ⟨by omega, e⟩
  · rw [if_neg hd] at ht
    subst ht
    have hpos : 0 < r := by
      by_cases h : a + r < n.cs.length
      · have := hr4 h; omega
      · omega
    refine ⟨by show a < a + r; omega, by show a + r ≤ _; omega, e1, fun h => ?_⟩
    show nxt n (a + r) + 1 ≤ _ ∧ most < takesN n.kind (sgC n.cs a (nxt n (a + r) + 1))
    have h : a + r < n.cs.length := h
    have e := e3 h
    have hx := nxt_le n (a + r)
    have hx2 : nxt n (a + r) + 1 ≤ n.cs.length := by
      by_cases hk : n.kind = 1
      · have : nxt n (a + r) = a + r := by unfold nxt; rw [if_pos hk]
        omega
      · have : a + r + 1 ≠ n.cs.length := fun q => hd ⟨h, hk, q⟩
        omega
    exact ⟨hx2, Nat.lt_of_lt_of_le e (takes_mono (Nat.le_refl _) (by omega) (by omega))⟩
/-- The parts of a node that has no place: more than one, each fits, no two neighbours do. -/
def Parts (n : Nd) (most : Nat) (ps : List (Nat × Nat)) : Prop :=
  2 ≤ ps.length ∧ (∀ i, i < ps.length → (pr ps i).1 < (pr ps i).2 ∧ (pr ps i).2 ≤ n.cs.length ∧ takesN n.kind (sgC n.cs (pr ps i).1 (pr ps i).2) ≤ most) ∧ (pr ps 0).1 = 0 ∧ (pr ps (ps.length - 1)).2 = n.cs.length ∧
    ∀ i, i + 1 < ps.length → (pr ps (i + 1)).1 = nxt n (pr ps i).2 ∧ (pr ps i).2 < n.cs.length ∧ most < takesN n.kind (sgC n.cs (pr ps i).1 (pr ps (i + 1)).2)
theorem Chain.parts {n : Nd} {most : Nat} {ps : List (Nat × Nat)} {a : Nat} (h : Chain n most ps a) (ha : ¬ a < n.cs.length) (hf : most < takesN n.kind n.cs) : Parts n most ps := by
  obtain ⟨h1, h2, h3, h4, h5⟩ := h
  have hlen : 0 < n.cs.length := by
    by_cases h : n.cs.length = 0
    · rw [List.eq_nil_of_length_eq_zero h] at hf
      simp [takesN] at hf
    · omega
  have hp : 0 < ps.length := by
    by_cases h : ps.length = 0
    · have := h4 h; omega
    · omega
  have hlast : (pr ps (ps.length - 1)).2 = n.cs.length := by
    have h6 := h5 hp
    have h7 := h1 (ps.length - 1) (by omega)
    unfold goOn at h6
    split at h6
    · rename_i q
      have := (h7.2.2.2 q).1
      omega
    · have := h7.2.1; omega
  refine ⟨?_, fun i hi => ⟨(h1 i hi).1, (h1 i hi).2.1, (h1 i hi).2.2.1⟩, h2 hp, hlast, fun i hi => ⟨(h3 i hi).1, (h3 i hi).2, ?_⟩⟩
  · by_cases h : ps.length = 1
    · have h8 := h1 0 hp
      rw [h] at hlast
      rw [show 1 - 1 = 0 from rfl] at hlast
      have h9 := h8.2.2.1
      rw [h2 hp, hlast, sgC_all] at h9
      omega
    · omega
  · have h6 := (h1 i (by omega)).2.2.2 (h3 i hi).2
    have h7 := h1 (i + 1) hi
    have h8 := (h3 i hi).1
    have h9 := h7.1
    have h10 := (h1 i (by omega)).1
    have h11 := nxt_le n (pr ps i).2
    exact Nat.lt_of_lt_of_le h6.2 (takes_mono (Nat.le_refl _) (by omega) (by omega))
end
section
open Go.RowKit
set_option maxRecDepth 100000
set_option linter.unusedVariables false
set_option linter.unusedSimpArgs false
set_option linter.unnecessarySimpa false
/-- A function value that weighs each cell. -/
def Weighs (w : World) (f : Nat) (x : Value) (k : Int) (cs : List Cl) : Prop :=
  ∀ (w' : World) (c : Cl) (A : Option Addr) (d : Nat), c ∈ cs → Below w.heap.size w w' → c.loc.length ≤ d → d ≤ maxLen → Rd w' A c.loc → Calls Try.prog f #[c.val A c.loc.length d, x] w' fun e w'' => e = .returned (.int .i64 (tkC k c : Int)) ∧ Below w'.heap.size w' w''
theorem Weighs.keep {w w' : World} {f : Nat} {x : Value} {k : Int} {cs : List Cl} (h : Weighs w f x k cs) (hb : Below w.heap.size w w') : Weighs w' f x k cs := fun w2 c A d hc hb2 h1 h2 h3 => h w2 c A d hc (hb.trans (hb2.mono hb.size)) h1 h2 h3
theorem Weighs.sub {w : World} {f : Nat} {x : Value} {k : Int} {cs cs' : List Cl} (h : Weighs w f x k cs) (hs : ∀ c ∈ cs', c ∈ cs) : Weighs w f x k cs' := fun w2 c A d hc => h w2 c A d (hs c hc)
/-- A function value that tells of each cell, with two things of its own. -/
def Tells2 (w : World) (f : Nat) (x y : Value) (p : Cl → Bool) (cs : List Cl) : Prop :=
  ∀ (w' : World) (c : Cl) (A : Option Addr) (d : Nat), c ∈ cs → Below w.heap.size w w' → c.loc.length ≤ d → d ≤ maxLen → Rd w' A c.loc → Calls Try.prog f #[c.val A c.loc.length d, x, y] w' fun e w'' => e = .returned (.bool (p c)) ∧ Below w'.heap.size w' w''

set_option maxHeartbeats 8000000 in
theorem indexF2_any (w : World) (A : Option Addr) (n c : Nat) (cs : List Cl) (f : Nat) (x y : Value) (p : Cl → Bool) (hn : cs.length = n) (hnm : n ≤ 100000) (hA : RdCl w A cs) (ht : Tells2 w f x y p cs) (hf : ∀ (v : Value) (w : World), (callFunc f #[v, x, y]).run Try.prog w = .ok (.enter f #[v, x, y]) w) (R : Ending → World → Prop) (hR : R = AnyBack w p cs) :
    Calls Try.prog 111 #[.slice A n c, .func (.func f) #[] #[x, y]] w R := by
  have HR := Lib.hid hR; clear hR
  have HA := Lib.hid hA
  have HN := Lib.hid hn
  have HT := Lib.hid ht
  clear hA hn ht
  go_enter Try.func111, Try.ntmps111
  go_wp2_with fail
  go_loopw [8] (fun i wr => ∃ j : Nat, j ≤ n ∧ i = .int .i64 j ∧ (∀ d ∈ cs.take j, p d = false) ∧ Below w.heap.size w wr) (fun i _ => n - (intOf i).toNat)
  case atStart => exact ⟨0, Nat.zero_le _, rfl, by simp, Below.refl _ _⟩
  case round =>
    obtain ⟨j, hj, rfl, hno, hb⟩ := hrel
    have HNO := Lib.hid hno
    clear hno
    by_cases hlt : j < n
    · have hjF : j < cs.length := by rw [HN.out]; exact hlt
      have hlt' : (j : Int) < (n : Int) := by omega
      have i0 : (0 : Int) ≤ (j : Int) := by omega
      obtain ⟨b, off, hAe, hcell⟩ := (HA.out.keep hb).at (by omega)
      obtain ⟨LA, d, hrg, hd1, hd2, hrd⟩ := hcell j hjF
      have hmem : cl_ cs j ∈ cs := by rw [cl_lt hjF]; exact List.getElem_mem hjF
      have HCT := Lib.hid (show cs.take (j + 1) = cs.take j ++ [cl_ cs j] by rw [List.take_succ_eq_append_getElem hjF, cl_lt hjF])
      obtain ⟨cl, hcl⟩ : ∃ x, cl_ cs j = x := ⟨_, rfl⟩
      rw [hcl] at hrg hd1 hrd hmem HCT
      have HRG := Lib.hid hrg
      have HTC := Lib.hid (HT.out wr cl LA d hmem hb hd1 hd2 hrd)
      subst hAe
      clear hcell hrg hcl hmem hrd hjF
      go_upto_region 4 with fail
      iterate 13 go_step
      refine wp_load_clo rfl _ rfl b (off + j * 5) cl LA cl.loc.length d rfl HRG.out ?_
      go_wp2_with fail
      refine (HTC.out).mono ?_
      rintro e w1 ⟨rfl, hb1⟩
      have hb01 : Below w.heap.size w w1 := hb.trans (hb1.mono hb.size)
      clear hb1 HTC
      by_cases hp : p cl = true
      · rw [hp]
        have HP := Lib.hid hp
        clear hp
        go_wp2_with fail
        rw [HR.out]
        exact ⟨j, rfl, ⟨fun _ => ⟨cl, by
          have : cl ∈ cs.take (j + 1) := by rw [HCT.out]; simp
          exact List.mem_of_mem_take this, HP.out⟩, fun _ => by omega⟩, hb01⟩
      · have hp' : p cl = false := by simpa using hp
        rw [hp']
        have HP := Lib.hid hp'
        clear hp hp'
        go_wp2_with fail
        go_roundw
        case rel =>
          refine ⟨j + 1, by omega, by go_num, fun d hd => ?_, hb01⟩
          rw [HCT.out] at hd
          rcases List.mem_append.1 hd with h | h
          · exact HNO.out d h
          · obtain rfl : d = cl := by simpa using h
            exact HP.out
        case measure => simp [intOf]; omega
    · obtain rfl : j = n := by omega
      go_wp2_with fail
      rw [HR.out]
      refine ⟨-1, rfl, ⟨fun h => by omega, fun ⟨d, hd, hp⟩ => ?_⟩, hb⟩
      rw [HNO.out d (by rw [← HN.out, List.take_length]; exact hd)] at hp
      cases hp
theorem containsF2_any (w : World) (A : Option Addr) (n c : Nat) (cs : List Cl) (f : Nat) (x y : Value) (p : Cl → Bool) (hn : cs.length = n) (hnm : n ≤ 100000) (hA : RdCl w A cs) (ht : Tells2 w f x y p cs) (hf : ∀ (v : Value) (w : World), (callFunc f #[v, x, y]).run Try.prog w = .ok (.enter f #[v, x, y]) w) :
    Calls Try.prog 98 #[.slice A n c, .func (.func f) #[] #[x, y]] w fun e w' => e = .returned (.bool (cs.any p)) ∧ Below w.heap.size w w' := by
  have HI := Lib.hid (indexF2_any w A n c cs f x y p hn hnm hA ht hf _ rfl)
  clear hn hA ht hf
  go_enter Try.func98, Try.ntmps98
  go_wp2_with fail
  refine HI.out.mono ?_
  rintro e w1 ⟨z, rfl, hz, hb⟩
  have HZ := Lib.hid (show cs.any p = decide (0 ≤ z) by
    by_cases h : 0 ≤ z
    · rw [decide_eq_true h, List.any_eq_true]; exact hz.1 h
    · rw [decide_eq_false h, Bool.eq_false_iff]
      intro h2
      rw [List.any_eq_true] at h2
      exact h (hz.2 h2))
  clear hz HI
  go_wp2_with fail
  go_ret
  exact ⟨ret_bool HZ.out.symm, hb⟩

/-- 'takes(n.Kind, c)'. -/
theorem split1_any (w : World) (n : Nd) (A : Option Addr) (c g : Nat) (hn : NdAt w g n A c) (hok : ∀ d ∈ n.cs, ClOk d) (hl : ∀ d ∈ n.cs, d.loc.length ≤ 16384) : Weighs w 96 (.pointer (some ⟨g, 0, none⟩)) n.kind n.cs := by
  intro w' cl LA d hmem hb hd1 hd2 hrd
  have HC := Lib.hid (hok cl hmem)
  have HL := Lib.hid (hl cl hmem)
  have HAT := Lib.hid (hn.keepB hb hn.lt)
  have hgl : g < w'.heap.size := HAT.out.lt
  have HRD := Lib.hid hrd
  clear hn hok hl hmem hb hrd
  obtain ⟨W0, hW0⟩ : ∃ W, W = w'.alloc (.cells #[.int .i64 cl.key, .int .i64 cl.child, .int .i64 cl.total, .slice LA cl.loc.length d, .int .i64 cl.spill] 55) := ⟨_, rfl⟩
  have hB0 : Below w'.heap.size w' W0 := by rw [hW0]; exact (Below.refl _ _).alloc (Nat.le_refl _) _
  have HR0 := Lib.hid (show W0.rangeAt w'.heap.size 0 (clC cl LA cl.loc.length d) by
    rw [hW0]
    intro j v hv
    rw [Nat.zero_add, heap_cell (heap_alloc_new w' _)]
    simpa [clC] using hv)
  have HW := Lib.hid hW0
  clear hW0
  have m0 := (HAT.out.keep hB0).all.1
  show Calls Try.prog 96 #[cl.val LA cl.loc.length d, .pointer (some ⟨g, 0, none⟩)] w' _
  unfold Cl.val
  go_enter Try.func96, Try.ntmps96
  go_upto_region 1 with fail
  rw [← HW.out]
  clear HW
  iterate 7 go_step
  refine wp_load_clo rfl _ rfl w'.heap.size 0 cl LA cl.loc.length d rfl HR0.out ?_
  go_wp2_with fail
  refine (takes_any _ n.kind cl LA d HC.out HL.out hd1 hd2 (HRD.out.keep hB0)).mono ?_
  rintro e w1 ⟨rfl, hb1⟩
  have hb01 := hB0.trans (hb1.mono hB0.size)
  clear hb1 m0
  go_wp2_with fail
  go_ret
  exact ⟨rfl, hb01⟩

set_option maxHeartbeats 16000000 in
theorem run_any (w : World) (A : Option Addr) (n c : Nat) (cs : List Cl) (most : Nat) (f : Nat) (x : Value) (k : Int) (hn : cs.length = n) (hnm : n ≤ 100000) (hms : most ≤ 1000000) (htk : ∀ c ∈ cs, tkC k c ≤ 1000000) (hA : RdCl w A cs) (ht : Weighs w f x k cs) (hf : ∀ (v : Value) (w : World), (callFunc f #[v, x]).run Try.prog w = .ok (.enter f #[v, x]) w) (R : Ending → World → Prop) (hR : R = fun e w' => ∃ r : Nat, e = .returned (.int .i64 (r : Int)) ∧ IsRun k most cs r ∧ Below w.heap.size w w') :
    Calls Try.prog 100 #[.slice A n c, .int .i64 (most : Int), .func (.func f) #[] #[x]] w R := by
  have HR := Lib.hid hR; clear hR
  have HA := Lib.hid hA
  have HN := Lib.hid hn
  have HT := Lib.hid ht
  have HTK := Lib.hid htk
  clear hA hn ht htk
  go_enter Try.func100, Try.ntmps100
  go_wp2_with fail
  go_loopw [7, 12] (fun s i wr => ∃ j : Nat, j ≤ n ∧ i = .int .i64 j ∧ s = .int .i64 (takesN k (cs.take j) : Int) ∧ takesN k (cs.take j) ≤ most ∧ Below w.heap.size w wr) (fun _ i _ => n - (intOf i).toNat)
  case atStart => exact ⟨0, Nat.zero_le _, rfl, by simp [takesN], by simp [takesN], Below.refl _ _⟩
  case round =>
    obtain ⟨j, hj, rfl, rfl, hle, hb⟩ := hrel
    by_cases hlt : j < n
    · have hjF : j < cs.length := by rw [HN.out]; exact hlt
      have hlt' : (j : Int) < (n : Int) := by omega
      have i0 : (0 : Int) ≤ (j : Int) := by omega
      obtain ⟨b, off, hAe, hcell⟩ := (HA.out.keep hb).at (by omega)
      obtain ⟨LA, d, hrg, hd1, hd2, hrd⟩ := hcell j hjF
      have hmem : cl_ cs j ∈ cs := by rw [cl_lt hjF]; exact List.getElem_mem hjF
      have HST := Lib.hid (takesN_take (k := k) hjF)
      have htk := HTK.out _ hmem
      obtain ⟨cl, hcl⟩ : ∃ x, cl_ cs j = x := ⟨_, rfl⟩
      rw [hcl] at hrg hd1 hrd hmem HST htk
      obtain ⟨s, hs⟩ : ∃ s, takesN k (cs.take j) = s := ⟨_, rfl⟩
      rw [hs] at hle HST ⊢
      have HS := Lib.hid hs
      obtain ⟨tk, htke⟩ : ∃ t, tkC k cl = t := ⟨_, rfl⟩
      rw [htke] at HST htk
      have HTE := Lib.hid htke
      have HRG := Lib.hid hrg
      have HRD := Lib.hid hrd
      subst hAe
      clear hcell hrg hcl hrd hjF hs htke
      go_upto_region 4 with fail
      iterate 7 go_step
      refine wp_load_clo rfl _ rfl b (off + j * 5) cl LA cl.loc.length d rfl HRG.out ?_
      iterate 6 go_step
      obtain ⟨W1, hW1⟩ : ∃ W, W = wr.alloc (.cells #[.int .i64 0, .int .i64 0, .int .i64 0, .slice none 0 0, .int .i64 0] 55) := ⟨_, rfl⟩
      have HT1 := Lib.hid (show W1.there wr.heap.size 0 5 by rw [hW1]; exact there_new5 wr _ _ _ _ _ _)
      have hb1 : Below wr.heap.size wr W1 := by rw [hW1]; exact (Below.refl _ _).alloc (Nat.le_refl _) _
      rw [← hW1]
      clear hW1
      refine wp_store_cl rfl _ _ rfl wr.heap.size cl LA cl.loc.length d rfl rfl HT1.out ?_
      obtain ⟨w2, hw2⟩ : ∃ W, W = W1.setCells wr.heap.size 0 (clC cl LA cl.loc.length d) := ⟨_, rfl⟩
      have HR2 := Lib.hid (show w2.rangeAt wr.heap.size 0 (clC cl LA cl.loc.length d) by rw [hw2]; exact World.rangeAt_setCells_same _ _ _ _ HT1.out)
      have hb2 : Below wr.heap.size wr w2 := by rw [hw2]; exact below_setCellsR hb1 (Nat.le_refl _) _ _
      have hb02 : Below w.heap.size w w2 := hb.trans (hb2.mono hb.size)
      have HTC := Lib.hid (HT.out w2 cl LA d hmem hb02 hd1 hd2 (HRD.out.keep hb2))
      rw [← hw2]
      obtain ⟨g, hg⟩ : ∃ x, wr.heap.size = x := ⟨_, rfl⟩
      rw [hg] at HR2 ⊢
      clear hw2 hb1 hb2 HT1 hg
      go_upto_region 5 with fail
      iterate 7 go_step
      refine wp_load_clo rfl _ rfl g 0 cl LA cl.loc.length d rfl HR2.out ?_
      go_wp2_with fail
      refine HTC.out.mono ?_
      rintro e w3 ⟨rfl, hb3⟩
      rw [HTE.out]
      have hb03 : Below w.heap.size w w3 := hb02.trans (hb3.mono hb02.size)
      clear hb3 HTC HR2
      by_cases hgt : most < s + tk
      · have hgt' : (most : Int) < (s : Int) + (tk : Int) := by omega
        go_wp2_with fail
        rw [HR.out]
        exact ⟨j, rfl, ⟨by rw [HN.out]; exact hj, by rw [HS.out]; exact hle, fun _ => by rw [HST.out]; exact hgt⟩, hb03⟩
      · have hgt' : ¬ (most : Int) < (s : Int) + (tk : Int) := by omega
        go_wp2_with fail
        go_roundw
        case rel => exact ⟨j + 1, by omega, by go_num, by rw [HST.out]; go_num, by rw [HST.out]; omega, hb03⟩
        case measure => simp [intOf]; omega
    · obtain rfl : j = n := by omega
      go_wp2_with fail
      rw [HR.out]
      exact ⟨j, rfl, ⟨Nat.le_of_eq HN.out.symm, hle, fun h => absurd h (by rw [HN.out]; omega)⟩, hb⟩
end
section
open Go.RowKit
set_option maxRecDepth 100000
set_option linter.unusedVariables false
set_option linter.unusedSimpArgs false
set_option linter.unnecessarySimpa false
theorem run_append_k (w : World) (T E : TypeId) (ty : TypeId) (z : Value) (s k : Nat) (hT : Try.prog.underlying T = some (.slice E)) (hE : (Try.prog.info? E).map (fun i => (i.zero, i.size, i.bytes)) = some (some z, s, k)) (hz : z.cells.size = s) (hs : 0 < s) (hk : k ≤ 100)
    (base : Nat) (A : Option Addr) (n c : Nat) (vs : List Value) (hown : w.ownsRow base E s (.slice A n c) n vs) (b : Addr) (m d : Nat) (us : List Value) (hu : us.length = m * s) (hcells : ∀ j u, us[j]? = some u → w.cell? (b.add j) = some u) (h1 : ∀ u ∈ us, u.oneCell' = true) (hn : n + m ≤ 1000000000) (hbase : base ≤ w.heap.size) :
    ∃ A' c' w', (Builtin.append_ #[T, T] ty #[.slice A n c, .slice (some b) m d]).run Try.prog w = .ok (.slice A' (n + m) c') w' ∧ w'.ownsRow base E s (.slice A' (n + m) c') (n + m) (vs ++ us) ∧ Below base w w' ∧ Kept w A w' A' := by
  obtain ⟨i, hi, hzz, hsz, hby⟩ := info_parts hE
  have hkb : (n + m) * k ≤ 140737488355328 := by
    have : (n + m) * k ≤ (n + m) * 100 := Nat.mul_le_mul_left _ hk
    omega
  obtain ⟨v', w', hrun, h2, h3, h4, h5⟩ := run_append_own_at (P := Try.prog) w base T ty E i z s k hT hi hzz hsz hby hz hs (.slice A n c) n vs hown b m d us
    hu hcells h1 (by unfold maxLen; omega) hkb hbase
  have hform : ∃ A' c', v' = .slice A' (n + m) c' := by
    rcases h2.2 with ⟨hv, hn⟩ | ⟨g, cap, cur, hv, _⟩
    · exact ⟨none, 0, by rw [hv, hn]⟩
    · exact ⟨_, _, hv⟩
  obtain ⟨A', c', rfl⟩ := hform
  refine ⟨A', c', w', hrun, h2, (Below.refl _ _).grown h3 hbase (fun k hk => (World.ownsRow.lt hown k hk).1), fun k hk hne => h3.block k hk (fun e => ?_), fun a' ha => ?_⟩
  · cases A with
    | none => simp [Value.ownBlock] at e
    | some a => exact hne a rfl (by simpa [Value.ownBlock] using e.symm)
  · subst ha
    rcases h5 with h | h
    · cases A with
      | none => simp [Value.ownBlock] at h
      | some a => exact .inl ⟨a, rfl, by simpa [Value.ownBlock] using h.symm⟩
    · exact .inr (by simpa [Value.ownBlock] using h)
theorem wp_append_k {ops : Array Oper} {rest : List Oper} {o : Oper} {a : Act} {w : World} {Q : Exit → Act → World → Prop} (T E : TypeId) (z : Value) (s k : Nat) (hT : Try.prog.underlying T = some (.slice E)) (hE : (Try.prog.info? E).map (fun i => (i.zero, i.size, i.bytes)) = some (some z, s, k)) (hz : z.cells.size = s) (hs : 0 < s) (hk : k ≤ 100) (hgd : o.guard = none) (x y : Operand)
    (ho : o.op = .call { callee := .builtin .append, args := #[x, y], argTypes := #[T, T] })
    (base : Nat) (A : Option Addr) (n c : Nat) (vs : List Value) (hx : a.eval x = .slice A n c) (hown : w.ownsRow base E s (.slice A n c) n vs) (b : Addr) (m d : Nat) (us : List Value) (hy : a.eval y = .slice (some b) m d) (hu : us.length = m * s) (hcells : ∀ j u, us[j]? = some u → w.cell? (b.add j) = some u) (h1 : ∀ u ∈ us, u.oneCell' = true) (hn : n + m ≤ 1000000000) (hbase : base ≤ w.heap.size)
    (h : ∀ A' c' w', w'.ownsRow base E s (.slice A' (n + m) c') (n + m) (vs ++ us) → Below base w w' → Kept w A w' A' → wpList Try.prog ops Q rest (a.put o.dst (.slice A' (n + m) c')) w') : wpList Try.prog ops Q (o :: rest) a w := by
  obtain ⟨A', c', w', hrun, h2, h3, h4⟩ := run_append_k w T E o.type z s k hT hE hz hs hk base A n c vs hown b m d us hu hcells h1 hn hbase
  refine wpList_plain hgd fun K hK => ?_
  unfold Oper.wp execOp
  simp only [ho, resolve, invoke, builtin, Sem.run_bind, Sem.run_pure, Result.andThen_ok, List.map_toArray, List.map_cons, List.map_nil, hx, hy, hrun]
  exact hK _ _ (h A' c' w' h2 h3 h4)
theorem info_nd : (Try.prog.info? 69).map (fun i => (i.zero, i.size, i.bytes)) = some (some (.agg #[.int .i64 0, .slice none 0 0, .int .i64 0]), 3, 40) := by kernel_rfl

def blkO : Option Addr → List Nat
  | none => []
  | some a => [a.block]
def SameBut (w w' : World) (bad : List Nat) : Prop := ∀ i, i < w.heap.size → i ∉ bad → w'.heap[i]? = w.heap[i]?
theorem SameBut.cell {w w' : World} {bad : List Nat} (h : SameBut w w' bad) {b o : Nat} {v : Value} (hb : b ∉ bad) (hc : w.cell? ⟨b, o, none⟩ = some v) : w'.cell? ⟨b, o, none⟩ = some v := by
  have hl := World.block_lt_of_cell? w ⟨b, o, none⟩ hc
  rw [← hc]
  simp [World.cell?, h b hl hb]
theorem SameBut.below {w w' : World} (hb : Below w.heap.size w w') (bad : List Nat) : SameBut w w' bad := fun i hi _ => hb.block i hi
theorem SameBut.kept {w w' : World} {A A' : Option Addr} (h : Kept w A w' A') {bad : List Nat} (hA : ∀ g ∈ blkO A, g ∈ bad) : SameBut w w' bad := fun i hi hn => h.1 i hi (fun a ha e => hn (hA i (by subst ha; simp [blkO, e])))
theorem RdG.go {w w' : World} {bad bad' : List Nat} {A : Option Addr} {vs : List Value} (h : RdG w bad A vs) (hs : SameBut w w' bad) (hg : ∀ g ∈ bad', g ∈ bad ∨ w.heap.size ≤ g) : RdG w' bad' A vs := by
  rcases h with h | ⟨b, off, rfl, hn, h⟩
  · exact .inl h
  · by_cases h0 : vs = []
    · exact .inl h0
    · refine .inr ⟨b, off, rfl, fun hm => ?_, fun i u hu => hs.cell hn (h i u hu)⟩
      have hpos : 0 < vs.length := List.length_pos_iff.2 h0
      have hl := World.block_lt_of_cell? w ⟨b, off + 0, none⟩ (h 0 _ (List.getElem?_eq_getElem hpos))
      rcases hg b hm with q | q
      · exact hn q
      · simp only at hl; omega
def RdX (w : World) (bad : List Nat) (A : Option Addr) (cs : List Cl) : Prop :=
  cs = [] ∨ ∃ b off, A = some ⟨b, off, none⟩ ∧ b ∉ bad ∧ ∀ i, i < cs.length → ∃ LA d, w.rangeAt b (off + i * 5) (clC (cl_ cs i) LA (cl_ cs i).loc.length d) ∧ (cl_ cs i).loc.length ≤ d ∧ d ≤ maxLen ∧ RdG w bad LA (vb (cl_ cs i).loc)
theorem RdX.rd {w : World} {bad : List Nat} {A : Option Addr} {cs : List Cl} (h : RdX w bad A cs) : RdCl w A cs := by
  rcases h with h | ⟨b, off, rfl, _, h⟩
  · exact .inl h
  · refine .inr ⟨b, off, rfl, fun i hi => ?_⟩
    obtain ⟨LA, d, h1, h2, h3, h4⟩ := h i hi
    exact ⟨LA, d, h1, h2, h3, h4.rd⟩
theorem RdX.go {w w' : World} {bad bad' : List Nat} {A : Option Addr} {cs : List Cl} (h : RdX w bad A cs) (hs : SameBut w w' bad) (hg : ∀ g ∈ bad', g ∈ bad ∨ w.heap.size ≤ g) : RdX w' bad' A cs := by
  rcases h with h | ⟨b, off, rfl, hn, h⟩
  · exact .inl h
  · by_cases h0 : cs = []
    · exact .inl h0
    · have hpos : 0 < cs.length := List.length_pos_iff.2 h0
      refine .inr ⟨b, off, rfl, fun hm => ?_, fun i hi => ?_⟩
      · obtain ⟨LA, d, h1, _⟩ := h 0 hpos
        have hl := rangeLt h1
        rcases hg b hm with q | q
        · exact hn q
        · omega
      · obtain ⟨LA, d, h1, h2, h3, h4⟩ := h i hi
        exact ⟨LA, d, fun j u hu => hs.cell hn (h1 j u hu), h2, h3, h4.go hs hg⟩
theorem OwnB.rdTy {w : World} {b : Nat} {A : Option Addr} {n c : Nat} {l : List Int} (h : OwnB w b A n c l) {bad : List Nat} (hb : ∀ g ∈ bad, ∃ T, TyAt w g T ∧ T ≠ 5) : RdG w bad A (vb l) := by
  refine OwnG.rd (E := 5) (base := b) ⟨by rw [vb_length]; exact h.len, h⟩ (bad := []) (by simp) |>.elim .inl fun ⟨g, off, hA, _, hc⟩ => ?_
  by_cases h0 : vb l = []
  · exact .inl h0
  · refine .inr ⟨g, off, hA, fun hm => ?_, hc⟩
    obtain ⟨T, ⟨cur, fr, ht⟩, hT⟩ := hb g hm
    rcases h.2 with ⟨hv, _⟩ | ⟨g2, cap, cur2, hv, _, hg, _⟩
    · injection hv with e1; rw [e1] at hA; cases hA
    · injection hv with e1
      rw [e1] at hA
      injection hA with e2
      injection e2 with e3
      subst e3
      rw [ht] at hg
      injection hg with q
      injection q with _ q2 _
      exact hT q2
theorem Loc.rdTy {w : World} {A : Option Addr} {l : List Int} {d : Nat} (h : Loc w 0 A l d) {bad : List Nat} (hb : ∀ g ∈ bad, ∃ T, TyAt w g T ∧ T ≠ 5) : RdG w bad A (vb l) := by
  rcases h with ⟨h1, h2⟩ | ⟨b, h⟩
  · by_cases h0 : l = []
    · exact .inl (by rw [h0]; rfl)
    · rcases h1 with h1 | ⟨g, off, rfl, _⟩
      · exact absurd h1 h0
      · exact absurd (h2 _ rfl h0) (Nat.not_lt_zero _)
  · exact h.rdTy hb
theorem OwnCl.rdX {w : World} {base : Nat} {A : Option Addr} {m c : Nat} {cs : List Cl} (h : OwnCl w 0 base A m c cs) {bad : List Nat} (hb : ∀ g ∈ bad, g < base ∧ ∃ T, TyAt w g T ∧ T ≠ 5) : RdX w bad A cs := by
  obtain ⟨h1, vs, hown, h4⟩ := h
  rcases hown.2 with ⟨hv, hn⟩ | ⟨g, cap, cur, hv, hbg, _⟩
  · subst hn
    exact .inl (List.eq_nil_of_length_eq_zero h1)
  · injection hv with e1 e2 e3
    subst e1
    refine .inr ⟨g, 0, rfl, fun hm => absurd (hb g hm).1 (by omega), fun i hi => ?_⟩
    obtain ⟨LA, d, k1, k2, k3, k4⟩ := h4.2 i hi
    refine ⟨LA, d, fun j u hu => ?_, k2, k3, k4.rdTy (fun g hg => (hb g hg).2)⟩
    have := World.ownsRow.cells hown (g := g) rfl _ u (k1 j u hu)
    rw [Nat.zero_add]
    simpa [Addr.add_lit] using this

def nd_ (ns : List Nd) (i : Nat) : Nd := ns.getD i zeroN
theorem nd_lt {ns : List Nd} {i : Nat} (h : i < ns.length) : nd_ ns i = ns[i] := by simp [nd_, h]
theorem nd_app {a b : List Nd} (i : Nat) : nd_ (a ++ b) i = if i < a.length then nd_ a i else nd_ b (i - a.length) := by
  unfold nd_
  simp only [List.getD_eq_getElem?_getD]
  by_cases h : i < a.length
  · rw [if_pos h, List.getElem?_append_left h]
  · rw [if_neg h, List.getElem?_append_right (by omega)]
def NdVals (w : World) (bad : List Nat) (ns : List Nd) (vs : List Value) : Prop :=
  vs.length = ns.length * 3 ∧ ∀ i, i < ns.length → ∃ A c, (∀ j u, (ndC (nd_ ns i) A c)[j]? = some u → vs[i * 3 + j]? = some u) ∧ (nd_ ns i).cs.length ≤ c ∧ c ≤ maxLen ∧ RdX w bad A (nd_ ns i).cs
def SpVals (w : World) (bad : List Nat) (ss : List Cl) (vs : List Value) : Prop :=
  vs.length = ss.length * 5 ∧ ∀ i, i < ss.length → ∃ A d, (∀ j u, (clC (cl_ ss i) A (cl_ ss i).loc.length d)[j]? = some u → vs[i * 5 + j]? = some u) ∧ (cl_ ss i).loc.length ≤ d ∧ d ≤ maxLen ∧ RdG w bad A (vb (cl_ ss i).loc)
theorem NdVals.go {w w' : World} {bad bad' : List Nat} {ns : List Nd} {vs : List Value} (h : NdVals w bad ns vs) (hs : SameBut w w' bad) (hg : ∀ g ∈ bad', g ∈ bad ∨ w.heap.size ≤ g) : NdVals w' bad' ns vs :=
  ⟨h.1, fun i hi => by obtain ⟨A, c, h1, h2, h3, h4⟩ := h.2 i hi; exact ⟨A, c, h1, h2, h3, h4.go hs hg⟩⟩
theorem SpVals.go {w w' : World} {bad bad' : List Nat} {ss : List Cl} {vs : List Value} (h : SpVals w bad ss vs) (hs : SameBut w w' bad) (hg : ∀ g ∈ bad', g ∈ bad ∨ w.heap.size ≤ g) : SpVals w' bad' ss vs :=
  ⟨h.1, fun i hi => by obtain ⟨A, c, h1, h2, h3, h4⟩ := h.2 i hi; exact ⟨A, c, h1, h2, h3, h4.go hs hg⟩⟩
theorem NdVals.snoc {w : World} {bad : List Nat} {ns : List Nd} {vs : List Value} (h : NdVals w bad ns vs) {n : Nd} {A : Option Addr} {c : Nat} (h1 : n.cs.length ≤ c) (h2 : c ≤ maxLen) (h3 : RdX w bad A n.cs) : NdVals w bad (ns ++ [n]) (vs ++ ndC n A c) := by
  have hl : (ndC n A c).length = 3 := rfl
  refine ⟨by rw [List.length_append, List.length_append, h.1, hl, List.length_singleton, Nat.add_mul], fun i hi => ?_⟩
  rw [List.length_append, List.length_singleton] at hi
  rw [nd_app]
  by_cases hlt : i < ns.length
  · rw [if_pos hlt]
    obtain ⟨A', c', q1, q2⟩ := h.2 i hlt
    refine ⟨A', c', fun j u hu => ?_, q2⟩
    have := q1 j u hu
    rw [List.getElem?_append_left (List.getElem?_eq_some_iff.1 this).1]
    exact this
  · rw [if_neg hlt]
    obtain rfl : i = ns.length := by omega
    rw [Nat.sub_self]
    refine ⟨A, c, fun j u hu => ?_, h1, h2, h3⟩
    rw [List.getElem?_append_right (by rw [h.1]; omega), h.1, Nat.add_sub_cancel_left]
    exact hu
theorem SpVals.snoc {w : World} {bad : List Nat} {ss : List Cl} {vs : List Value} (h : SpVals w bad ss vs) {c : Cl} {A : Option Addr} {d : Nat} (h1 : c.loc.length ≤ d) (h2 : d ≤ maxLen) (h3 : RdG w bad A (vb c.loc)) : SpVals w bad (ss ++ [c]) (vs ++ clC c A c.loc.length d) := by
  have hl : (clC c A c.loc.length d).length = 5 := rfl
  refine ⟨by rw [List.length_append, List.length_append, h.1, hl, List.length_singleton, Nat.add_mul], fun i hi => ?_⟩
  rw [List.length_append, List.length_singleton] at hi
  rw [cl_app]
  by_cases hlt : i < ss.length
  · rw [if_pos hlt]
    obtain ⟨A', c', q1, q2⟩ := h.2 i hlt
    refine ⟨A', c', fun j u hu => ?_, q2⟩
    have := q1 j u hu
    rw [List.getElem?_append_left (List.getElem?_eq_some_iff.1 this).1]
    exact this
  · rw [if_neg hlt]
    obtain rfl : i = ss.length := by omega
    rw [Nat.sub_self]
    refine ⟨A, d, fun j u hu => ?_, h1, h2, h3⟩
    rw [List.getElem?_append_right (by rw [h.1]; omega), h.1, Nat.add_sub_cancel_left]
    exact hu
/-- Nodes, and what stands between them, in memory of the call's own. -/
structure SpSt (base : Nat) (W : World) (NA : Option Addr) (nc : Nat) (ns : List Nd) (SA : Option Addr) (sc : Nat) (ss : List Cl) : Prop where
  nrow : ∃ vs, W.ownsRow base 69 3 (.slice NA ns.length nc) ns.length vs ∧ NdVals W (blkO NA ++ blkO SA) ns vs
  srow : ∃ us, W.ownsRow base 55 5 (.slice SA ss.length sc) ss.length us ∧ SpVals W (blkO NA ++ blkO SA) ss us
theorem row_ty {w : World} {base s n c : Nat} {E : TypeId} {A : Option Addr} {vs : List Value} (h : w.ownsRow base E s (.slice A n c) n vs) : ∀ g ∈ blkO A, TyAt w g E ∧ base ≤ g ∧ g < w.heap.size := by
  intro g hg
  rcases h.2 with ⟨hv, _⟩ | ⟨g2, cap, cur, hv, hbg, hgg, _⟩
  · injection hv with e1; rw [e1] at hg; simp [blkO] at hg
  · injection hv with e1
    rw [e1] at hg
    simp only [blkO, List.mem_singleton] at hg
    subst hg
    exact ⟨⟨_, _, hgg⟩, hbg, (Array.getElem?_eq_some_iff.1 hgg).1⟩
theorem SpSt.ty {base : Nat} {W : World} {NA : Option Addr} {nc : Nat} {ns : List Nd} {SA : Option Addr} {sc : Nat} {ss : List Cl} (h : SpSt base W NA nc ns SA sc ss) : ∀ g ∈ blkO NA ++ blkO SA, (base ≤ g ∧ g < W.heap.size) ∧ ∃ T, TyAt W g T ∧ T ≠ 5 := by
  obtain ⟨⟨vs, h1, _⟩, ⟨us, h2, _⟩⟩ := h
  intro g hg
  rcases List.mem_append.1 hg with q | q
  · have := row_ty h1 g q
    exact ⟨this.2, _, this.1, by decide⟩
  · have := row_ty h2 g q
    exact ⟨this.2, _, this.1, by decide⟩
theorem SpSt.nil (base : Nat) (W : World) : SpSt base W none 0 [] none 0 [] :=
  ⟨⟨[], World.ownsRow_nil W base _ _, rfl, fun i hi => by simp at hi⟩, ⟨[], World.ownsRow_nil W base _ _, rfl, fun i hi => by simp at hi⟩⟩
theorem SpSt.keep {base : Nat} {W W' : World} {NA : Option Addr} {nc : Nat} {ns : List Nd} {SA : Option Addr} {sc : Nat} {ss : List Cl} (h : SpSt base W NA nc ns SA sc ss) (hb : Below W.heap.size W W') : SpSt base W' NA nc ns SA sc ss := by
  obtain ⟨⟨vs, h1, h2⟩, ⟨us, h3, h4⟩⟩ := h
  exact ⟨⟨vs, ownG_keep h1 hb, h2.go (SameBut.below hb _) (fun g hg => .inl hg)⟩, ⟨us, ownG_keep h3 hb, h4.go (SameBut.below hb _) (fun g hg => .inl hg)⟩⟩
theorem rowKept {w w' : World} {base base2 s s2 n c n2 c2 : Nat} {E E2 : TypeId} {A A2 A' : Option Addr} {vs us : List Value} (h : w.ownsRow base E s (.slice A n c) n vs) (k : w.ownsRow base2 E2 s2 (.slice A2 n2 c2) n2 us) (hE : E ≠ E2) (hk : Kept w A2 w' A') : w'.ownsRow base E s (.slice A n c) n vs := by
  refine ⟨h.1, ?_⟩
  rcases h.2 with hv | ⟨g, cap, cur, hv, hbg, hgg, rest⟩
  · exact .inl hv
  · refine .inr ⟨g, cap, cur, hv, hbg, (hk.1 g (Array.getElem?_eq_some_iff.1 hgg).1 (fun a ha e => ?_)).trans hgg, rest⟩
    obtain ⟨⟨cur2, fr, ht⟩, _⟩ := row_ty k g (by subst ha; simp [blkO, e])
    rw [hgg] at ht
    injection ht with q
    injection q with _ q2 _
    exact hE q2
theorem grow_bad {w w' : World} {A A' : Option Addr} (hk : Kept w A w' A') {r bad : List Nat} (hA : ∀ g ∈ blkO A, g ∈ bad) (hr : ∀ g ∈ r, g ∈ bad) : ∀ g, g ∈ blkO A' ∨ g ∈ r → g ∈ bad ∨ w.heap.size ≤ g := by
  intro g hg
  rcases hg with q | q
  · cases A' with
    | none => simp [blkO] at q
    | some a' =>
      simp only [blkO, List.mem_singleton] at q
      rcases hk.2 a' rfl with ⟨a, ha, e⟩ | e
      · exact .inl (hA g (by subst ha; simp [blkO, q, e]))
      · exact .inr (by omega)
  · exact .inl (hr g q)
theorem SpSt.node {base : Nat} {W W' : World} {NA NA' : Option Addr} {nc nc' : Nat} {ns : List Nd} {SA : Option Addr} {sc : Nat} {ss : List Cl} (h : SpSt base W NA nc ns SA sc ss) {vs : List Value} (hv : W.ownsRow base 69 3 (.slice NA ns.length nc) ns.length vs) (hvv : NdVals W (blkO NA ++ blkO SA) ns vs) {n : Nd} {A : Option Addr} {c : Nat} (h1 : n.cs.length ≤ c) (h2 : c ≤ maxLen) (h3 : RdX W (blkO NA ++ blkO SA) A n.cs)
    (ho : W'.ownsRow base 69 3 (.slice NA' (ns.length + 1) nc') (ns.length + 1) (vs ++ ndC n A c)) (hk : Kept W NA W' NA') : SpSt base W' NA' nc' (ns ++ [n]) SA sc ss := by
  obtain ⟨_, ⟨us, h5, h6⟩⟩ := h
  have hs := SameBut.kept hk (bad := blkO NA ++ blkO SA) (fun g hg => List.mem_append_left _ hg)
  have hg : ∀ g ∈ blkO NA' ++ blkO SA, g ∈ blkO NA ++ blkO SA ∨ W.heap.size ≤ g := fun g hg => grow_bad hk (bad := blkO NA ++ blkO SA) (r := blkO SA) (fun g hg => List.mem_append_left _ hg) (fun g hg => List.mem_append_right _ hg) g (List.mem_append.1 hg)
  exact ⟨⟨_, by simpa using ho, (hvv.snoc h1 h2 h3).go hs hg⟩, ⟨us, rowKept h5 hv (by decide) hk, h6.go hs hg⟩⟩
theorem SpSt.sep {base : Nat} {W W' : World} {NA : Option Addr} {nc : Nat} {ns : List Nd} {SA SA' : Option Addr} {sc sc' : Nat} {ss : List Cl} (h : SpSt base W NA nc ns SA sc ss) {us : List Value} (hv : W.ownsRow base 55 5 (.slice SA ss.length sc) ss.length us) (hvv : SpVals W (blkO NA ++ blkO SA) ss us) {x : Cl} {A : Option Addr} {d : Nat} (h1 : x.loc.length ≤ d) (h2 : d ≤ maxLen) (h3 : RdG W (blkO NA ++ blkO SA) A (vb x.loc))
    (ho : W'.ownsRow base 55 5 (.slice SA' (ss.length + 1) sc') (ss.length + 1) (us ++ clC x A x.loc.length d)) (hk : Kept W SA W' SA') : SpSt base W' NA nc ns SA' sc' (ss ++ [x]) := by
  obtain ⟨⟨vs, h5, h6⟩, _⟩ := h
  have hs := SameBut.kept hk (bad := blkO NA ++ blkO SA) (fun g hg => List.mem_append_right _ hg)
  have hg : ∀ g ∈ blkO NA ++ blkO SA', g ∈ blkO NA ++ blkO SA ∨ W.heap.size ≤ g := fun g hg => grow_bad hk (bad := blkO NA ++ blkO SA) (r := blkO NA) (fun g hg => List.mem_append_right _ hg) (fun g hg => List.mem_append_left _ hg) g ((List.mem_append.1 hg).symm)
  exact ⟨⟨vs, rowKept h5 hv (by decide) hk, h6.go hs hg⟩, ⟨_, by simpa using ho, (hvv.snoc h1 h2 h3).go hs hg⟩⟩
end
section
open Go.RowKit
set_option maxRecDepth 100000
set_option linter.unusedVariables false
set_option linter.unusedSimpArgs false
set_option linter.unnecessarySimpa false
def cutC (A : Option Addr) (c lo : Nat) : Option Addr := if c = lo then A else A.map (·.add (lo * 5))
theorem run_cutC (A : Option Addr) (n c a b : Nat) (h1 : a ≤ b) (h2 : b ≤ c) (w : World) :
    (Instr.slice 67 (.slice A n c) (some (.int .i64 (a : Int))) (some (.int .i64 (b : Int))) none).run Try.prog w = .ok (.slice (cutC A c a) (b - a) (c - a)) w := by
  rw [run_slice_lh w 67 A n c Try.underlying67 .i64 .i64 (a : Int) (b : Int) (by omega) (by omega) (by omega)]
  have e : (sizeOf (Try.prog.elem 67)).run Try.prog w = .ok 5 w := by kernel_rfl
  rw [e]
  simp only [Result.andThen, sliced, Int.toNat_natCast, cutC]
theorem run_cutC_from (A : Option Addr) (n c a : Nat) (h : a ≤ n) (w : World) :
    (Instr.slice 67 (.slice A n c) (some (.int .i64 (a : Int))) none none).run Try.prog w = .ok (.slice (cutC A c a) (n - a) (c - a)) w := by
  rw [run_slice_l w 67 A n c Try.underlying67 .i64 (a : Int) (by omega) (by omega)]
  have e : (sizeOf (Try.prog.elem 67)).run Try.prog w = .ok 5 w := by kernel_rfl
  rw [e]
  simp only [Result.andThen, sliced, Int.toNat_natCast, cutC]
theorem RdCl.cut {w : World} {A : Option Addr} {cs : List Cl} (h : RdCl w A cs) (c : Nat) {a b : Nat} (hb : b ≤ cs.length) (hc : cs.length ≤ c) : RdCl w (cutC A c a) (sgC cs a b) := by
  by_cases hab : a < b
  · rcases h with h | ⟨bl, off, rfl, h⟩
    · rw [h] at hb; simp at hb; omega
    · have e : cutC (some ⟨bl, off, none⟩) c a = some ⟨bl, off + a * 5, none⟩ := by
        unfold cutC
        rw [if_neg (by omega)]
        simp [Addr.add]
      rw [e]
      refine .inr ⟨bl, off + a * 5, rfl, fun i hi => ?_⟩
      rw [sgC_len hb] at hi
      rw [sgC_get hi hb, show off + a * 5 + i * 5 = off + (a + i) * 5 by omega]
      exact h (a + i) (by omega)
  · exact .inl (List.eq_nil_of_length_eq_zero (by rw [sgC_len hb]; omega))
theorem sgC_to (cs : List Cl) (a : Nat) : sgC cs a cs.length = cs.drop a := by
  unfold sgC
  rw [← List.length_drop, List.take_length]

/-- 'weigh(c)-beside > size/4-8'. -/
theorem split2_any (w : World) (k : Int) (N g2 g3 : Nat) (f : Nat) (x : Value) (cs : List Cl) (h2 : w.cell? ⟨g2, 0, none⟩ = some (.func (.func f) #[] #[x])) (h3 : w.cell? ⟨g3, 0, none⟩ = some (.int .i64 (N : Int))) (hN : 256 ≤ N ∧ N ≤ 4096) (htk : ∀ c ∈ cs, tkC k c ≤ 1000000) (ht : Weighs w f x k cs) (hf : ∀ (v : Value) (w : World), (callFunc f #[v, x]).run Try.prog w = .ok (.enter f #[v, x]) w) :
    Tells2 w 99 (.pointer (some ⟨g2, 0, none⟩)) (.pointer (some ⟨g3, 0, none⟩)) (fun c => decide (N / 4 - 8 < (encC k c).length)) cs := by
  intro w' cl LA d hmem hb hd1 hd2 hrd
  have htk := htk cl hmem
  obtain ⟨t, hte⟩ : ∃ t, (encC k cl).length = t := ⟨_, rfl⟩
  have HTE := Lib.hid (show tkC k cl = t + 4 by unfold tkC; rw [hte])
  have HTT := Lib.hid hte
  have ht1 : t ≤ 1000000 := by have : tkC k cl = t + 4 := HTE.out; omega
  have hl2 : g2 < w.heap.size := World.block_lt_of_cell? w ⟨g2, 0, none⟩ h2
  have hl3 : g3 < w.heap.size := World.block_lt_of_cell? w ⟨g3, 0, none⟩ h3
  have h2' := (hb.cell (p := ⟨g2, 0, none⟩) hl2).trans h2
  have h3' := (hb.cell (p := ⟨g3, 0, none⟩) hl3).trans h3
  have hz := hb.size
  have hl2' : g2 < w'.heap.size := by omega
  have hl3' : g3 < w'.heap.size := by omega
  obtain ⟨W0, hW0⟩ : ∃ W, W = w'.alloc (.cells #[.int .i64 cl.key, .int .i64 cl.child, .int .i64 cl.total, .slice LA cl.loc.length d, .int .i64 cl.spill] 55) := ⟨_, rfl⟩
  have hB0 : Below w'.heap.size w' W0 := by rw [hW0]; exact (Below.refl _ _).alloc (Nat.le_refl _) _
  have hl0 : w'.heap.size < W0.heap.size := by rw [hW0]; simp
  have HR0 := Lib.hid (show W0.rangeAt w'.heap.size 0 (clC cl LA cl.loc.length d) by
    rw [hW0]
    intro j v hv
    rw [Nat.zero_add, heap_cell (heap_alloc_new w' _)]
    simpa [clC] using hv)
  have HW := Lib.hid hW0
  have HTC := Lib.hid (fun (W : World) (hW : Below W0.heap.size W0 W) => ht W cl LA d hmem (hb.trans ((hB0.trans (hW.mono hB0.size)).mono hz)) hd1 hd2 (hrd.keep (hB0.trans (hW.mono hB0.size))))
  have F2 : ∀ W : World, Below W0.heap.size W0 W → W.cell? ⟨g2, 0, none⟩ = some (.func (.func f) #[] #[x]) := fun W hW => (((hB0.trans (hW.mono hB0.size))).cell (p := ⟨g2, 0, none⟩) hl2').trans h2'
  have F3 : ∀ W : World, Below W0.heap.size W0 W → W.cell? ⟨g3, 0, none⟩ = some (.int .i64 (N : Int)) := fun W hW => (((hB0.trans (hW.mono hB0.size))).cell (p := ⟨g3, 0, none⟩) hl3').trans h3'
  obtain ⟨q, hq⟩ : ∃ q, N / 4 = q := ⟨_, rfl⟩
  have HQ := Lib.hid hq
  have hq1 : q ≤ 1024 ∧ 64 ≤ q := by omega
  have hqd : (N : Int).tdiv 4 = (q : Int) := by rw [← hq]; rfl
  clear hW0 htk hte h2 h3 h2' h3' ht hmem hb hrd hq
  show Calls Try.prog 99 #[cl.val LA cl.loc.length d, .pointer (some ⟨g2, 0, none⟩), .pointer (some ⟨g3, 0, none⟩)] w' _
  unfold Cl.val
  go_enter Try.func99, Try.ntmps99
  go_upto_region 1 with fail
  rw [← HW.out]
  clear HW
  refine wp_region_held_drew (S := (fun W => Below W0.heap.size W0 W)) (by kernel_rfl) ?_ (fun hHeld => ?_)
  · exact (Below.refl _ W0).drew
  refine' wpAnyH_take (i := 0) (oi := _) (v := _) rfl (by kernel_rfl) (by kernel_rfl) (by kernel_rfl) (fun _ _ _ h => h) (Or.inl ⟨by rfl, ?hz1⟩) (by assumption) ?rezt1
  case hz1 => (intro w' hSw; (try dsimp only at hSw); go_simp; try with_reducible rfl)
  try simp only [Act.put, List.setIfInBounds_toArray, List.set_cons_zero, List.set_cons_succ, List.getElem_toArray, List.getElem_cons_zero, List.getElem_cons_succ]
  refine' wpAnyH_take (i := 1) (oi := _) (v := cl.val LA cl.loc.length d) rfl (by kernel_rfl) (by kernel_rfl) (by kernel_rfl) (fun _ _ _ h => h) (yieldsIf_load_mid (by rfl) 55 _ rfl w'.heap.size 0 rfl (clC cl LA cl.loc.length d) _ (fun W hW => rangeKeep HR0.out hW hl0) Try.underlying55 rfl size_cl) (by assumption) ?rezl1
  try simp only [Act.put, List.setIfInBounds_toArray, List.set_cons_zero, List.set_cons_succ, List.getElem_toArray, List.getElem_cons_zero, List.getElem_cons_succ]
  refine' wpAnyH_take (i := 4) (oi := _) (v := _) rfl (by kernel_rfl) (by kernel_rfl) (by kernel_rfl) (fun _ _ _ h => h) (Or.inl ⟨by rfl, ?hz2⟩) (by assumption) ?rezt2
  case hz2 => (intro w' hSw; (try dsimp only at hSw); go_simp; try with_reducible rfl)
  try simp only [Act.put, List.setIfInBounds_toArray, List.set_cons_zero, List.set_cons_succ, List.getElem_toArray, List.getElem_cons_zero, List.getElem_cons_succ]
  refine' wpAnyH_take (i := 5) (oi := _) (v := _) rfl (by kernel_rfl) (by kernel_rfl) (by kernel_rfl) (fun _ _ _ h => h) (Or.inl ⟨by rfl, ?hz3⟩) (by assumption) ?rezt3
  case hz3 => (intro w' hSw; (try dsimp only at hSw); go_simp; try with_reducible rfl)
  try simp only [Act.put, List.setIfInBounds_toArray, List.set_cons_zero, List.set_cons_succ, List.getElem_toArray, List.getElem_cons_zero, List.getElem_cons_succ]
  refine' wpAnyH_take (i := 6) (oi := _) (v := _) rfl (by kernel_rfl) (by kernel_rfl) (by kernel_rfl) (fun _ _ _ h => h) (Or.inl ⟨by rfl, ?hz4⟩) (by assumption) ?rezt4
  case hz4 => (intro w' hSw; (try dsimp only at hSw); go_simp; try with_reducible rfl)
  try simp only [Act.put, List.setIfInBounds_toArray, List.set_cons_zero, List.set_cons_succ, List.getElem_toArray, List.getElem_cons_zero, List.getElem_cons_succ]
  refine wpAnyH_ready (rs := [2]) (by kernel_rfl) (by simp) ?_
  refine AllReadyH.cons (o := _) rfl (fun K hK => ?_) AllReadyH.nil
  go_simp
  refine (HTC.out _ (Below.refl _ W0).drew).mono ?_
  rintro e w2 ⟨rfl, hb2⟩
  have hb02 : Below W0.heap.size W0 w2 := (Below.refl _ W0).drew.trans (hb2.mono (Nat.le_refl _))
  rw [HTE.out]
  clear hb2
  refine hK.out _ _ ?_ (fun hHeld => ?_)
  · exact hb02
  clear hK K
  try simp only [Act.put, List.setIfInBounds_toArray, List.set_cons_zero, List.set_cons_succ, List.getElem_toArray, List.getElem_cons_zero, List.getElem_cons_succ]
  have hbe : Below w'.heap.size w' w2 := hB0.trans (hb02.mono hB0.size)
  have e4 : ((t + 4 : Nat) : Int) - 4 = (t : Int) := by omega
  by_cases hgt : q - 8 < t
  · have hgt' : (q : Int) - 8 < (t : Int) := by omega
    refine' wpAnyH_take (i := 3) (oi := _) (v := _) rfl (by kernel_rfl) (by kernel_rfl) (by kernel_rfl) (fun _ _ _ h => h) (Or.inl ⟨by rfl, ?hz5⟩) (by assumption) ?rezt5
    case hz5 => (intro w' hSw; (try dsimp only at hSw); go_simp; try with_reducible rfl)
    try simp only [Act.put, List.setIfInBounds_toArray, List.set_cons_zero, List.set_cons_succ, List.getElem_toArray, List.getElem_cons_zero, List.getElem_cons_succ]
    refine' wpAnyH_take (i := 7) (oi := _) (v := _) rfl (by kernel_rfl) (by kernel_rfl) (by kernel_rfl) (fun _ _ _ h => h) (Or.inl ⟨by rfl, ?hz6⟩) (by assumption) ?rezt6
    case hz6 => (intro w' hSw; (try dsimp only at hSw); go_simp; try with_reducible rfl)
    try simp only [Act.put, List.setIfInBounds_toArray, List.set_cons_zero, List.set_cons_succ, List.getElem_toArray, List.getElem_cons_zero, List.getElem_cons_succ]
    refine' wpAnyH_take (i := 8) (oi := _) (v := _) rfl (by kernel_rfl) (by kernel_rfl) (by kernel_rfl) (fun _ _ _ h => h) (Or.inl ⟨by rfl, ?hz7⟩) (by assumption) ?rezt7
    case hz7 => (intro w' hSw; (try dsimp only at hSw); go_simp; try with_reducible rfl)
    try simp only [Act.put, List.setIfInBounds_toArray, List.set_cons_zero, List.set_cons_succ, List.getElem_toArray, List.getElem_cons_zero, List.getElem_cons_succ]
    refine wpAnyH_done (by kernel_rfl) ?_ _
    clear F2 F3
    go_wp2_with fail
    go_ret
    exact ⟨ret_bool (by rw [HTT.out, HQ.out, IntWalk.i64_in (q : Int) (by omega), IntWalk.i64_in (t : Int) (by omega), IntWalk.i64_in ((q : Int) - 8) (by omega), decide_eq_true (show (q : Int) - 8 < (t : Int) by omega), decide_eq_true hgt]), hbe⟩
  · have hgt' : ¬ (q : Int) - 8 < (t : Int) := by omega
    refine' wpAnyH_take (i := 3) (oi := _) (v := _) rfl (by kernel_rfl) (by kernel_rfl) (by kernel_rfl) (fun _ _ _ h => h) (Or.inl ⟨by rfl, ?hz8⟩) (by assumption) ?rezt8
    case hz8 => (intro w' hSw; (try dsimp only at hSw); go_simp; try with_reducible rfl)
    try simp only [Act.put, List.setIfInBounds_toArray, List.set_cons_zero, List.set_cons_succ, List.getElem_toArray, List.getElem_cons_zero, List.getElem_cons_succ]
    refine' wpAnyH_take (i := 7) (oi := _) (v := _) rfl (by kernel_rfl) (by kernel_rfl) (by kernel_rfl) (fun _ _ _ h => h) (Or.inl ⟨by rfl, ?hz9⟩) (by assumption) ?rezt9
    case hz9 => (intro w' hSw; (try dsimp only at hSw); go_simp; try with_reducible rfl)
    try simp only [Act.put, List.setIfInBounds_toArray, List.set_cons_zero, List.set_cons_succ, List.getElem_toArray, List.getElem_cons_zero, List.getElem_cons_succ]
    refine' wpAnyH_take (i := 8) (oi := _) (v := _) rfl (by kernel_rfl) (by kernel_rfl) (by kernel_rfl) (fun _ _ _ h => h) (Or.inl ⟨by rfl, ?hz10⟩) (by assumption) ?rezt10
    case hz10 => (intro w' hSw; (try dsimp only at hSw); go_simp; try with_reducible rfl)
    try simp only [Act.put, List.setIfInBounds_toArray, List.set_cons_zero, List.set_cons_succ, List.getElem_toArray, List.getElem_cons_zero, List.getElem_cons_succ]
    refine wpAnyH_done (by kernel_rfl) ?_ _
    clear F2 F3
    go_wp2_with fail
    go_ret
    exact ⟨ret_bool (by rw [HTT.out, HQ.out, IntWalk.i64_in (q : Int) (by omega), IntWalk.i64_in (t : Int) (by omega), IntWalk.i64_in ((q : Int) - 8) (by omega), decide_eq_false (show ¬ (q : Int) - 8 < (t : Int) by omega), decide_eq_false hgt]), hbe⟩
end
section
open Go.RowKit
set_option maxRecDepth 100000
set_option linter.unusedVariables false
set_option linter.unusedSimpArgs false
set_option linter.unnecessarySimpa false
theorem range_set1 {w : World} {g : Nat} {c : Cl} {A : Option Addr} {n d : Nat} (h : w.rangeAt g 0 (clC c A n d)) (r : Int) : (w.setCell ⟨g, 1, none⟩ (.int .i64 r)).rangeAt g 0 (clC { c with child := r } A n d) := by
  intro j u hu
  have hj : j < 5 := (List.getElem?_eq_some_iff.1 hu).1
  have h3 := h 3 _ rfl
  have h0 := h 0 _ rfl
  have h1 := h 1 _ rfl
  have h2 := h 2 _ rfl
  have h4 := h 4 _ rfl
  rw [Nat.zero_add] at h0 h1 h2 h3 h4
  rw [Nat.zero_add]
  rcases (by omega : j = 0 ∨ j = 1 ∨ j = 2 ∨ j = 3 ∨ j = 4) with rfl | rfl | rfl | rfl | rfl
  · rw [World.cell?_setCell_other _ _ _ _ (by simp), h0]; exact hu
  · rw [World.cell?_setCell_same _ _ _ h1]; exact hu
  · rw [World.cell?_setCell_other _ _ _ _ (by simp), h2]; exact hu
  · rw [World.cell?_setCell_other _ _ _ _ (by simp), h3]; exact hu
  · rw [World.cell?_setCell_other _ _ _ _ (by simp), h4]; exact hu
theorem results_cell_cell {fn : Func} {p q : Tmp} {ty ty' : TypeId} (h : fn.results = #[.cell p ty, .cell q ty']) (tmps : Array Value) (P : Program) (w : World) :
    (results fn tmps).run P w =
      ((asAddr (tmps.getD p undef)).run P w).andThen fun a w₁ => ((loadVar ty a).run P w₁).andThen fun v w₂ => ((asAddr (tmps.getD q undef)).run P w₂).andThen fun b w₃ => ((loadVar ty' b).run P w₃).andThen fun u w₄ => .ok (.tuple #[v, u]) w₄ := by
  simp only [results, h]
  simp [Sem.run_bind, Result.andThen]
theorem ret_nd_cl {fn : Func} {R : Ending → World → Prop} {a : Act} {w : World} {q u : Tmp} {g g' : Nat} {n : Nd} {A : Option Addr} {c : Nat} {x : Cl} {X : Option Addr} {m d : Nat} (hres : fn.results = #[.cell q 69, .cell u 55]) (hp : a.tmps.getD q undef = .pointer (some ⟨g, 0, none⟩)) (hp' : a.tmps.getD u undef = .pointer (some ⟨g', 0, none⟩)) (hc : NdAt w g n A c) (hc' : ClAt w g' x X m d) (hd : a.defers = [])
    (hR : R (.returned (.tuple #[n.val A c, x.val X m d])) w) : bodyPost Try.prog fn R .ret a w := by
  refine bodyPost_ret (v := .tuple #[n.val A c, x.val X m d]) ?_ hd hR
  rw [results_cell_cell hres, hp, hp']
  show ((loadVar 69 ⟨g, 0, none⟩).run Try.prog w).andThen _ = _
  rw [run_loadNd w g n A c hc]
  show ((loadVar 55 ⟨g', 0, none⟩).run Try.prog w).andThen _ = _
  rw [run_loadCl w g' x X m d hc']
  rfl
theorem OwnCl.ltOf {w : World} {lo base : Nat} {A : Option Addr} {m c : Nat} {cs : List Cl} (h : OwnCl w lo base A m c cs) : ∀ a, A = some a → a.block < w.heap.size := by
  intro a ha
  obtain ⟨_, vs, k2, _⟩ := h
  subst ha
  exact (row_ty k2 a.block (by simp [blkO])).2.2
theorem Loc.ty {w w' : World} {A : Option Addr} {l : List Int} {d t : Nat} {T : TypeId} (h : Loc w 0 A l d) (hty : TyAt w t T) (h2 : T ≠ 5) (e : ∀ k, k ≠ t → k < w.heap.size → w'.heap[k]? = w.heap[k]?) : Loc w' 0 A l d := by
  rcases h with h | ⟨b, h⟩
  · refine .inl ⟨?_, h.2⟩
    rcases h.1 with q | ⟨bb, off, rfl, hc⟩
    · exact .inl q
    · by_cases h0 : l = []
      · exact .inl h0
      · exact absurd (h.2 _ rfl h0) (Nat.not_lt_zero _)
  · exact .inr ⟨b, ownsRow_ty h hty h2 e⟩
theorem OwnCl.other {w w' : World} {base : Nat} {A : Option Addr} {m c t : Nat} {cs : List Cl} {T : TypeId} (h : OwnCl w 0 base A m c cs) (hty : TyAt w t T) (hA : ∀ a, A = some a → a.block ≠ t) (h2 : T ≠ 5) (e : ∀ k, k ≠ t → k < w.heap.size → w'.heap[k]? = w.heap[k]?) : OwnCl w' 0 base A m c cs := by
  obtain ⟨k1, vs, k2, k3⟩ := h
  refine ⟨k1, vs, ⟨k2.1, ?_⟩, k3.1, fun i hi => ?_⟩
  · rcases k2.2 with hv | ⟨g, cap, cur, hv, hbg, hg, rest⟩
    · exact .inl hv
    · have hne : g ≠ t := by injection hv with e1; exact hA _ e1
      exact .inr ⟨g, cap, cur, hv, hbg, (e g hne (Array.getElem?_eq_some_iff.1 hg).1).trans hg, rest⟩
  · obtain ⟨LA, d, p1, p2, p3, p4⟩ := k3.2 i hi
    exact ⟨LA, d, p1, p2, p3, p4.ty hty h2 e⟩
theorem rangeNe {w w' : World} {g o : Nat} {vs : List Value} (h : w.rangeAt g o vs) (e : w'.heap[g]? = w.heap[g]?) : w'.rangeAt g o vs := fun j u hu => by
  rw [← h j u hu]
  simp [World.cell?, e]
/-- A part of a node, and what stands behind it. -/
def PartN (w : World) (n : Nd) (a b : Nat) (e : Ending) (w' : World) : Prop :=
  ∃ A c X d x, e = .returned (.tuple #[(nodeI n a b).val A c, Cl.val x X x.loc.length d]) ∧ (b < n.cs.length → x = sepI n b) ∧ OwnCl w' 0 w.heap.size A (nodeI n a b).cs.length c (nodeI n a b).cs ∧ Loc w' 0 X x.loc d ∧ x.loc.length ≤ d ∧ d ≤ maxLen ∧ Below w.heap.size w w'
/-- The boxes of part. -/
structure Pt (w W : World) (n : Nd) (A : Option Addr) (c : Nat) : Prop where
  x : NdAt W w.heap.size n A c
  r1 : W.there (w.heap.size + 1) 0 3
  y1 : TyAt W (w.heap.size + 1) 69
  r2 : W.there (w.heap.size + 2) 0 5
  y2 : TyAt W (w.heap.size + 2) 55
  bel : Below w.heap.size w W
  sz : w.heap.size + 3 ≤ W.heap.size
theorem Pt.keepB {w W W' : World} {n : Nd} {A : Option Addr} {c : Nat} (h : Pt w W n A c) (hb : Below (w.heap.size + 3) W W') : Pt w W' n A c :=
  ⟨h.x.keepB hb (by omega), there_keepR h.r1 hb (by omega), h.y1.keepB hb (by omega), there_keepR h.r2 hb (by omega), h.y2.keepB hb (by omega), h.bel.trans (hb.mono (by omega)), Nat.le_trans h.sz hb.size⟩
theorem Pt.keep {w W W' : World} {n : Nd} {A : Option Addr} {c : Nat} (h : Pt w W n A c) (hb : Below W.heap.size W W') : Pt w W' n A c := h.keepB (hb.mono h.sz)
theorem Pt.sets {w W : World} {n : Nd} {A : Option Addr} {c : Nat} (h : Pt w W n A c) (g : Nat) (hg : w.heap.size < g) (vs : List Value) : Pt w (W.setCells g 0 vs) n A c :=
  ⟨fun j u hu => by
    rw [← h.x j u hu]
    simp [World.cell?, heap_setCells_ne _ _ _ _ (show w.heap.size ≠ g by omega)], World.there_setCells h.r1 _ _ _, TyAt.sets _ _ _ _ h.y1, World.there_setCells h.r2 _ _ _, TyAt.sets _ _ _ _ h.y2, below_setCellsR h.bel (by omega) _ _, by rw [size_setCells]; exact h.sz⟩
theorem NdAt.ne {w w' : World} {g : Nat} {n : Nd} {A : Option Addr} {c : Nat} (h : NdAt w g n A c) (e : w'.heap[g]? = w.heap[g]?) : NdAt w' g n A c := fun j u hu => by
  rw [← h j u hu]
  simp [World.cell?, e]

set_option maxHeartbeats 64000000 in
theorem part_any (w : World) (n : Nd) (A : Option Addr) (c a b : Nat) (hab : a < b) (hb : b ≤ n.cs.length) (hlc : n.cs.length ≤ c) (hcm : c ≤ maxLen) (hl : n.cs.length ≤ 100000) (hloc : ∀ d ∈ n.cs, d.loc.length ≤ 16384) (hA : RdCl w A n.cs) (R : Ending → World → Prop) (hR : R = PartN w n a b) :
    Calls Try.prog 101 #[n.val A c, .int .i64 (a : Int), .int .i64 (b : Int)] w R := by
  have HR := Lib.hid hR; clear hR
  have HLOC := Lib.hid hloc
  have hcm63 : c ≤ 9223372036854775807 := by unfold maxLen at hcm; omega
  obtain ⟨cs', hcs⟩ : ∃ x, sgC n.cs a b = x := ⟨_, rfl⟩
  have hln := sgC_len (a := a) hb
  have hcut := run_cutC A n.cs.length c a b (by omega) (by omega)
  rw [← hln, hcs] at hcut
  have hmem' : ∀ d ∈ cs', d ∈ n.cs := fun d hd => sgC_mem (by rw [hcs]; exact hd)
  have HCUT := Lib.hid (hcs ▸ hA.cut c (a := a) hb hlc : RdCl w (cutC A c a) cs')
  have hln' : cs'.length ≤ 100000 := by rw [← hcs, hln]; omega
  have HCS := Lib.hid hcs
  have HA := Lib.hid hA
  have HMEM := Lib.hid hmem'
  obtain ⟨W0, hW0⟩ : ∃ W, W = ((w.alloc (.cells #[.int .i64 n.kind, .slice A n.cs.length c, .int .i64 n.right] 69)).alloc (.cells #[.int .i64 0, .slice none 0 0, .int .i64 0] 69)).alloc (.cells #[.int .i64 0, .int .i64 0, .int .i64 0, .slice none 0 0, .int .i64 0] 55) := ⟨_, rfl⟩
  have hs1 : (w.alloc (.cells #[.int .i64 n.kind, .slice A n.cs.length c, .int .i64 n.right] 69)).heap.size = w.heap.size + 1 := by simp
  have hs2 : ((w.alloc (.cells #[.int .i64 n.kind, .slice A n.cs.length c, .int .i64 n.right] 69)).alloc (.cells #[.int .i64 0, .slice none 0 0, .int .i64 0] 69)).heap.size = w.heap.size + 2 := by simp
  have HP0 := Lib.hid (show Pt w W0 n A c by
    rw [hW0]
    have b1 : ∀ (X : World) (o : Obj), Below X.heap.size X (X.alloc o) := fun X o => (Below.refl _ _).alloc (Nat.le_refl _) _
    refine ⟨((NdAt.made w n A c _).keep (b1 _ _)).keep (b1 _ _), ?_, ?_, ?_, ?_, ?_, by simp⟩
    · have := there_new3 (w.alloc (.cells #[.int .i64 n.kind, .slice A n.cs.length c, .int .i64 n.right] 69)) (.int .i64 0) (.slice none 0 0) (.int .i64 0) 69
      rw [hs1] at this
      exact there_keepR this (b1 _ _) (by rw [hs2]; omega)
    · have := TyAt.new (w.alloc (.cells #[.int .i64 n.kind, .slice A n.cs.length c, .int .i64 n.right] 69)) #[.int .i64 0, .slice none 0 0, .int .i64 0] 69
      rw [hs1] at this
      exact this.keepB (b1 _ _) (by rw [hs2]; omega)
    · have := there_new5 ((w.alloc (.cells #[.int .i64 n.kind, .slice A n.cs.length c, .int .i64 n.right] 69)).alloc (.cells #[.int .i64 0, .slice none 0 0, .int .i64 0] 69)) (.int .i64 0) (.int .i64 0) (.int .i64 0) (.slice none 0 0) (.int .i64 0) 55
      rw [hs2] at this
      exact this
    · have := TyAt.new ((w.alloc (.cells #[.int .i64 n.kind, .slice A n.cs.length c, .int .i64 n.right] 69)).alloc (.cells #[.int .i64 0, .slice none 0 0, .int .i64 0] 69)) #[.int .i64 0, .int .i64 0, .int .i64 0, .slice none 0 0, .int .i64 0] 55
      rw [hs2] at this
      exact this
    · exact (b1 w _).trans (((b1 _ _).mono (by rw [hs1]; omega)).trans ((b1 _ _).mono (by rw [hs2]; omega))))
  have HW := Lib.hid hW0
  clear hW0 hs1 hs2 hcs hln hmem' hloc hA
  unfold Nd.val
  go_enter Try.func101, Try.ntmps101
  go_upto_region 1 with fail
  rw [← HW.out]
  clear HW
  go_cut [8] from 10 to 20 (fun v wx => ∃ g8 A8 c8, v = .pointer (some ⟨g8, 0, none⟩) ∧ Pt w wx n A c ∧ NdAt wx g8 ⟨n.kind, n.right, cs'⟩ A8 c8 ∧ wx.there g8 0 3 ∧ TyAt wx g8 69 ∧ w.heap.size + 3 ≤ g8 ∧ OwnCl wx 0 (w.heap.size + 3) A8 cs'.length c8 cs')
  case first =>
    have F0 : ∀ W : World, Pt w W n A c → W.cell? ⟨w.heap.size, 0, none⟩ = some (.int .i64 n.kind) := fun W hW => hW.x.all.1
    have F1 : ∀ W : World, Pt w W n A c → W.cell? ⟨w.heap.size, 1, none⟩ = some (.slice A n.cs.length c) := fun W hW => hW.x.all.2.1
    have F2 : ∀ W : World, Pt w W n A c → W.cell? ⟨w.heap.size, 2, none⟩ = some (.int .i64 n.right) := fun W hW => hW.x.all.2.2
    refine wp_region_held_drew (S := (fun W => Pt w W n A c)) (by kernel_rfl) ?_ (fun hHeld => ?_)
    · exact HP0.out.keep (Below.refl _ W0).drew
    refine' wpAnyH_take (i := 0) (oi := _) (v := _) rfl (by kernel_rfl) (by kernel_rfl) (by kernel_rfl) (fun _ _ _ h => h) (Or.inl ⟨by rfl, ?hz1⟩) (by assumption) ?rezt1
    case hz1 => (intro w' hSw; (try dsimp only at hSw); go_simp; try with_reducible rfl)
    try simp only [Act.put, List.setIfInBounds_toArray, List.set_cons_zero, List.set_cons_succ, List.getElem_toArray, List.getElem_cons_zero, List.getElem_cons_succ]
    refine' wpAnyH_take (i := 1) (oi := _) (v := _) rfl (by kernel_rfl) (by kernel_rfl) (by kernel_rfl) (fun _ _ _ h => h) (Or.inl ⟨by rfl, ?hz2⟩) (by assumption) ?rezt2
    case hz2 => (intro w' hSw; (try dsimp only at hSw); go_simp; try with_reducible rfl)
    try simp only [Act.put, List.setIfInBounds_toArray, List.set_cons_zero, List.set_cons_succ, List.getElem_toArray, List.getElem_cons_zero, List.getElem_cons_succ]
    refine' wpAnyH_take (i := 2) (oi := _) (v := _) rfl (by kernel_rfl) (by kernel_rfl) (by kernel_rfl) (fun _ _ _ h => h) (Or.inl ⟨by rfl, ?hz3⟩) (by assumption) ?rezt3
    case hz3 => (intro w' hSw; (try dsimp only at hSw); go_simp; try with_reducible rfl)
    try simp only [Act.put, List.setIfInBounds_toArray, List.set_cons_zero, List.set_cons_succ, List.getElem_toArray, List.getElem_cons_zero, List.getElem_cons_succ]
    refine' wpAnyH_take (i := 3) (oi := _) (v := _) rfl (by kernel_rfl) (by kernel_rfl) (by kernel_rfl) (fun _ _ _ h => h) (Or.inl ⟨by rfl, ?hz4⟩) (by assumption) ?rezt4
    case hz4 => (intro w' hSw; (try dsimp only at hSw); go_simp; try with_reducible rfl)
    try simp only [Act.put, List.setIfInBounds_toArray, List.set_cons_zero, List.set_cons_succ, List.getElem_toArray, List.getElem_cons_zero, List.getElem_cons_succ]
    refine' wpAnyH_take (i := 4) (oi := _) (v := _) rfl (by kernel_rfl) (by kernel_rfl) (by kernel_rfl) (fun _ _ _ h => h) (Or.inl ⟨by rfl, ?hz5⟩) (by assumption) ?rezt5
    case hz5 => (intro w' hSw; (try dsimp only at hSw); go_simp; try with_reducible rfl)
    try simp only [Act.put, List.setIfInBounds_toArray, List.set_cons_zero, List.set_cons_succ, List.getElem_toArray, List.getElem_cons_zero, List.getElem_cons_succ]
    refine' wpAnyH_take (i := 5) (oi := _) (v := _) rfl (by kernel_rfl) (by kernel_rfl) (by kernel_rfl) (fun _ _ _ h => h) (Or.inl ⟨by rfl, ?hz6⟩) (by assumption) ?rezt6
    case hz6 => (intro w' hSw; (try dsimp only at hSw); go_simp; try with_reducible rfl)
    try simp only [Act.put, List.setIfInBounds_toArray, List.set_cons_zero, List.set_cons_succ, List.getElem_toArray, List.getElem_cons_zero, List.getElem_cons_succ]
    refine' wpAnyH_take (i := 6) (oi := _) (v := _) rfl (by kernel_rfl) (by kernel_rfl) (by kernel_rfl) (fun _ _ _ h => h) (Or.inl ⟨by rfl, ?hz7⟩) (by assumption) ?rezt7
    case hz7 => (intro w' hSw; (try dsimp only at hSw); go_simp; try with_reducible rfl)
    try simp only [Act.put, List.setIfInBounds_toArray, List.set_cons_zero, List.set_cons_succ, List.getElem_toArray, List.getElem_cons_zero, List.getElem_cons_succ]
    refine' wpAnyH_take (i := 8) (oi := _) (v := _) rfl (by kernel_rfl) (by kernel_rfl) (by kernel_rfl) (fun _ _ _ h => h) (Or.inl ⟨by rfl, ?hz8⟩) (by assumption) ?rezt8
    case hz8 => (intro w' hSw; (try dsimp only at hSw); go_simp; try with_reducible rfl)
    try simp only [Act.put, List.setIfInBounds_toArray, List.set_cons_zero, List.set_cons_succ, List.getElem_toArray, List.getElem_cons_zero, List.getElem_cons_succ]
    refine' wpAnyH_take (i := 9) (oi := _) (v := _) rfl (by kernel_rfl) (by kernel_rfl) (by kernel_rfl) (fun _ _ _ h => h) (Or.inl ⟨by rfl, ?hz9⟩) (by assumption) ?rezt9
    case hz9 => (intro w' hSw; (try dsimp only at hSw); go_simp; try with_reducible rfl)
    try simp only [Act.put, List.setIfInBounds_toArray, List.set_cons_zero, List.set_cons_succ, List.getElem_toArray, List.getElem_cons_zero, List.getElem_cons_succ]
    refine wpAnyH_ready (rs := [7, 11]) (by kernel_rfl) (by simp) ?_
    refine AllReadyH.cons (o := _) rfl (fun K hK => ?_) (AllReadyH.cons (o := _) rfl (fun K hK => ?_) AllReadyH.nil)
    · go_simp
      have hp0 : Pt w W0.drew n A c := HP0.out.keep (Below.refl _ W0).drew
      go_at_call 95
      refine (ncopied_any _ (cutC A c a) cs'.length (c - a) cs' rfl hln' (fun d hd => by have := HLOC.out d (HMEM.out d hd); omega) (HCUT.out.keep hp0.bel) _ rfl).mono ?_
      rintro e w6 ⟨A8, c8, rfl, hown6, hb6⟩
      have HP6 := Lib.hid (hp0.keep hb6)
      have hsz0 := hp0.sz
      have HO6 := Lib.hid (hown6.mono (show w.heap.size + 3 ≤ _ from hsz0))
      clear hown6 hp0
      refine hK.out _ _ ?_ (fun hHeld => ?_)
      · exact HP6.out
      clear hK K
      try simp only [Act.put, List.setIfInBounds_toArray, List.set_cons_zero, List.set_cons_succ, List.getElem_toArray, List.getElem_cons_zero, List.getElem_cons_succ]
      refine' wpAnyH_take (i := 10) (oi := _) (v := _) rfl (by kernel_rfl) (by kernel_rfl) (by kernel_rfl) (fun _ _ _ h => h) (Or.inl ⟨by rfl, ?hz10⟩) (by assumption) ?rezt10
      case hz10 => (intro w' hSw; (try dsimp only at hSw); go_simp; try with_reducible rfl)
      try simp only [Act.put, List.setIfInBounds_toArray, List.set_cons_zero, List.set_cons_succ, List.getElem_toArray, List.getElem_cons_zero, List.getElem_cons_succ]
      refine wpAnyH_ready (rs := [11]) (by kernel_rfl) (by simp) ?_
      refine AllReadyH.cons (o := _) rfl (fun K hK => ?_) AllReadyH.nil
      go_simp
      refine hK.out _ _ ?_ (fun hHeld => ?_)
      · exact HP6.out.keep ((Below.refl _ w6).alloc (Nat.le_refl _) _)
      clear hK K
      try simp only [Act.put, List.setIfInBounds_toArray, List.set_cons_zero, List.set_cons_succ, List.getElem_toArray, List.getElem_cons_zero, List.getElem_cons_succ]
      obtain ⟨W8, hW8⟩ : ∃ W, W = w6.alloc (.cells #[.int .i64 0, .slice none 0 0, .int .i64 0] 69) := ⟨_, rfl⟩
      have hb8 : Below w6.heap.size w6 W8 := by rw [hW8]; exact (Below.refl _ _).alloc (Nat.le_refl _) _
      have HT8 := Lib.hid (show W8.there w6.heap.size 0 3 by rw [hW8]; exact there_new3 w6 _ _ _ _)
      have HY8 := Lib.hid (show TyAt W8 w6.heap.size 69 by rw [hW8]; exact TyAt.new w6 _ _)
      rw [← hW8]
      clear hW8
      obtain ⟨wf, hwf⟩ : ∃ W, W = W8.setCells w6.heap.size 0 (ndC ⟨n.kind, n.right, cs'⟩ A8 c8) := ⟨_, rfl⟩
      have hb6f : Below w6.heap.size w6 wf := by rw [hwf]; exact below_setCellsR hb8 (Nat.le_refl _) _ _
      have HNf := Lib.hid (show NdAt wf w6.heap.size ⟨n.kind, n.right, cs'⟩ A8 c8 by rw [hwf]; exact NdAt.stored HT8.out _ _ _)
      have HTf := Lib.hid (show wf.there w6.heap.size 0 3 by rw [hwf]; exact World.there_setCells HT8.out _ _ _)
      have HYf := Lib.hid (show TyAt wf w6.heap.size 69 by rw [hwf]; exact TyAt.sets _ _ _ _ HY8.out)
      have HOf := Lib.hid (HO6.out.keep hb6f)
      have HPf := Lib.hid (HP6.out.keep hb6f)
      have hgf := HP6.out.sz
      refine wpAnyH_ready (rs := [12]) (by kernel_rfl) (by simp) ?_
      refine AllReadyH.cons (o := _) rfl (fun K hK => ?_) AllReadyH.nil
      refine step_store_nd rfl _ _ rfl w6.heap.size ⟨n.kind, n.right, cs'⟩ A8 c8 rfl rfl HT8.out ?_
      rw [← hwf]
      refine hK.out _ _ ?_ (fun hHeld => ?_)
      · exact HPf.out
      clear hK K
      try simp only [Act.put, List.setIfInBounds_toArray, List.set_cons_zero, List.set_cons_succ, List.getElem_toArray, List.getElem_cons_zero, List.getElem_cons_succ]
      refine wpAnyH_done (by kernel_rfl) ?_ _
      go_wp2_with fail
      go_meet
      exact ⟨_, A8, c8, rfl, HPf.out, HNf.out, HTf.out, HYf.out, hgf, HOf.out⟩
    · go_simp
      refine hK.out _ _ ?_ (fun hHeld => ?_)
      · exact HP0.out.keep ((Below.refl _ W0).alloc (Nat.le_refl _) _).drew
      clear hK K
      try simp only [Act.put, List.setIfInBounds_toArray, List.set_cons_zero, List.set_cons_succ, List.getElem_toArray, List.getElem_cons_zero, List.getElem_cons_succ]
      obtain ⟨W8, hW8⟩ : ∃ W, W = (W0.alloc (.cells #[.int .i64 0, .slice none 0 0, .int .i64 0] 69)).drew := ⟨_, rfl⟩
      have hb8 : Below W0.heap.size W0 W8 := by rw [hW8]; exact ((Below.refl _ _).alloc (Nat.le_refl _) _).drew
      have hl8 : W0.heap.size < W8.heap.size := by rw [hW8]; show _ < (W0.alloc (.cells #[.int .i64 0, .slice none 0 0, .int .i64 0] 69)).heap.size; simp
      have HT8 := Lib.hid (show W8.there W0.heap.size 0 3 by rw [hW8]; exact there_keepR (there_new3 W0 _ _ _ _) (Below.refl (W0.heap.size + 1) _).drew (Nat.lt_succ_self _))
      have HY8 := Lib.hid (show TyAt W8 W0.heap.size 69 by rw [hW8]; exact (TyAt.new W0 _ _).keepB (Below.refl (W0.heap.size + 1) _).drew (Nat.lt_succ_self _))
      have HP8 := Lib.hid (HP0.out.keep hb8)
      rw [← hW8]
      clear hW8
      refine wpAnyH_ready (rs := [7]) (by kernel_rfl) (by simp) ?_
      refine AllReadyH.cons (o := _) rfl (fun K hK => ?_) AllReadyH.nil
      go_simp
      have hp0 : Pt w W8 n A c := HP8.out
      go_at_call 95
      refine (ncopied_any _ (cutC A c a) cs'.length (c - a) cs' rfl hln' (fun d hd => by have := HLOC.out d (HMEM.out d hd); omega) (HCUT.out.keep hp0.bel) _ rfl).mono ?_
      rintro e w6 ⟨A8, c8, rfl, hown6, hb6⟩
      have HP6 := Lib.hid (hp0.keep hb6)
      have hsz0 := hp0.sz
      have HO6 := Lib.hid (hown6.mono (show w.heap.size + 3 ≤ _ from hsz0))
      clear hown6 hp0
      refine hK.out _ _ ?_ (fun hHeld => ?_)
      · exact HP6.out
      clear hK K
      try simp only [Act.put, List.setIfInBounds_toArray, List.set_cons_zero, List.set_cons_succ, List.getElem_toArray, List.getElem_cons_zero, List.getElem_cons_succ]
      refine' wpAnyH_take (i := 10) (oi := _) (v := _) rfl (by kernel_rfl) (by kernel_rfl) (by kernel_rfl) (fun _ _ _ h => h) (Or.inl ⟨by rfl, ?hz11⟩) (by assumption) ?rezt11
      case hz11 => (intro w' hSw; (try dsimp only at hSw); go_simp; try with_reducible rfl)
      try simp only [Act.put, List.setIfInBounds_toArray, List.set_cons_zero, List.set_cons_succ, List.getElem_toArray, List.getElem_cons_zero, List.getElem_cons_succ]
      have HT9 := Lib.hid (there_keepR HT8.out hb6 hl8)
      have HY9 := Lib.hid (HY8.out.keepB hb6 hl8)
      have hgf := HP0.out.sz
      obtain ⟨wf, hwf⟩ : ∃ W, W = w6.setCells W0.heap.size 0 (ndC ⟨n.kind, n.right, cs'⟩ A8 c8) := ⟨_, rfl⟩
      have HNf := Lib.hid (show NdAt wf W0.heap.size ⟨n.kind, n.right, cs'⟩ A8 c8 by rw [hwf]; exact NdAt.stored HT9.out _ _ _)
      have HTf := Lib.hid (show wf.there W0.heap.size 0 3 by rw [hwf]; exact World.there_setCells HT9.out _ _ _)
      have HYf := Lib.hid (show TyAt wf W0.heap.size 69 by rw [hwf]; exact TyAt.sets _ _ _ _ HY9.out)
      have HOf := Lib.hid (HO6.out.ty (w' := wf) HY9.out (by decide) (by decide) (Nat.zero_le _) (fun i hi _ => by rw [hwf]; exact heap_setCells_ne _ _ _ _ hi))
      have HPf := Lib.hid (show Pt w wf n A c by rw [hwf]; exact HP6.out.keepB (below_setCellsR (Below.refl _ _) hgf _ _))
      refine wpAnyH_ready (rs := [12]) (by kernel_rfl) (by simp) ?_
      refine AllReadyH.cons (o := _) rfl (fun K hK => ?_) AllReadyH.nil
      refine step_store_nd rfl _ _ rfl W0.heap.size ⟨n.kind, n.right, cs'⟩ A8 c8 rfl rfl HT9.out ?_
      rw [← hwf]
      refine hK.out _ _ ?_ (fun hHeld => ?_)
      · exact HPf.out
      clear hK K
      try simp only [Act.put, List.setIfInBounds_toArray, List.set_cons_zero, List.set_cons_succ, List.getElem_toArray, List.getElem_cons_zero, List.getElem_cons_succ]
      refine wpAnyH_done (by kernel_rfl) ?_ _
      go_wp2_with fail
      go_meet
      exact ⟨_, A8, c8, rfl, HPf.out, HNf.out, HTf.out, HYf.out, hgf, HOf.out⟩
  case rest =>
    rename World => w4
    obtain ⟨g8, A8, c8, rfl, hp4, hn4, ht4, hy4, hg8, ho4⟩ := hcut
    have HP4 := Lib.hid hp4
    have HN4 := Lib.hid hn4
    have HT4 := Lib.hid ht4
    have HY4 := Lib.hid hy4
    have HO4 := Lib.hid ho4
    have hz4 := hp4.sz
    have hl8 : g8 < w4.heap.size := hn4.lt
    obtain ⟨x0, x1, x2⟩ := hp4.x.all
    clear hp4 hn4 ht4 hy4 ho4 HP0 HCUT
    by_cases hk : n.kind = 1
    · have q1 : (n.kind == 1) = true := by simp [hk]
      have HK := Lib.hid hk
      have hlt : b - 1 < n.cs.length := by omega
      obtain ⟨bl, off, hAe, hcell⟩ := HA.out.at (by omega)
      obtain ⟨LA, d, hrg, _, _, _⟩ := hcell (b - 1) hlt
      have hkey := hrg 0 _ rfl
      rw [Nat.add_zero] at hkey
      obtain ⟨ky, hky⟩ : ∃ x, (cl_ n.cs (b - 1)).key = x := ⟨_, rfl⟩
      rw [hky] at hkey
      have HKY := Lib.hid hky
      have hblt : bl < w.heap.size := World.block_lt_of_cell? w _ hkey
      obtain ⟨b1, hb1⟩ : ∃ x, b - 1 = x := ⟨_, rfl⟩
      rw [hb1] at hkey hlt
      have hsub : (b : Int) - 1 = (b1 : Int) := by omega
      have hwr : IntKind.i64.wrap (b1 : Int) = (b1 : Int) := IntWalk.i64_in _ (by omega)
      have hlt' : (b1 : Int) < (n.cs.length : Int) := by omega
      have i0 : (0 : Int) ≤ (b1 : Int) := by omega
      obtain ⟨m, hm⟩ : ∃ x : Nd, (⟨n.kind, n.right, cs'⟩ : Nd) = x := ⟨_, rfl⟩
      have hmc : cs' = m.cs := by rw [← hm]
      rw [hm] at HN4
      have HM := Lib.hid (show m = nodeI n a b by rw [← hm]; unfold nodeI rtI; rw [if_pos (.inl HK.out), HCS.out])
      rw [hmc] at HO4
      have F1 : ∀ W : World, (Pt w W n A c ∧ NdAt W g8 m A8 c8) → W.cell? ⟨w.heap.size, 1, none⟩ = some (.slice A n.cs.length c) := fun W hW => hW.1.x.all.2.1
      have F7 : ∀ W : World, (Pt w W n A c ∧ NdAt W g8 m A8 c8) → W.cell? ⟨bl, off + b1 * 5, none⟩ = some (.int .i64 ky) := fun W hW => (hW.1.bel.cell (p := ⟨bl, off + b1 * 5, none⟩) hblt).trans hkey
      subst hAe
      clear hk hcell hrg hky hkey hb1 hm hmc
      go_upto_region 3 with fail
      clear x0 x1 x2
      refine wp_region_held_drew (S := (fun W => Pt w W n (some ⟨bl, off, none⟩) c ∧ NdAt W g8 m A8 c8)) (by kernel_rfl) ?_ (fun hHeld => ?_)
      · exact ⟨HP4.out.keep (Below.refl _ w4).drew, HN4.out.keep (Below.refl _ w4).drew⟩
      refine' wpAnyH_take (i := 0) (oi := _) (v := m.val A8 c8) rfl (by kernel_rfl) (by kernel_rfl) (by kernel_rfl) (fun _ _ _ h => h) (yieldsIf_load_mid (by rfl) 69 _ rfl g8 0 rfl (ndC m A8 c8) _ (fun W hW => hW.2) Try.underlying69 rfl size_nd) (by assumption) ?rezl1
      try simp only [Act.put, List.setIfInBounds_toArray, List.set_cons_zero, List.set_cons_succ, List.getElem_toArray, List.getElem_cons_zero, List.getElem_cons_succ]
      refine' wpAnyH_take (i := 1) (oi := _) (v := _) rfl (by kernel_rfl) (by kernel_rfl) (by kernel_rfl) (fun _ _ _ h => h) (Or.inl ⟨by rfl, ?hz12⟩) (by assumption) ?rezt12
      case hz12 => (intro w' hSw; (try dsimp only at hSw); go_simp; try with_reducible rfl)
      try simp only [Act.put, List.setIfInBounds_toArray, List.set_cons_zero, List.set_cons_succ, List.getElem_toArray, List.getElem_cons_zero, List.getElem_cons_succ]
      refine' wpAnyH_take (i := 2) (oi := _) (v := _) rfl (by kernel_rfl) (by kernel_rfl) (by kernel_rfl) (fun _ _ _ h => h) (Or.inl ⟨by rfl, ?hz13⟩) (by assumption) ?rezt13
      case hz13 => (intro w' hSw; (try dsimp only at hSw); go_simp; try with_reducible rfl)
      try simp only [Act.put, List.setIfInBounds_toArray, List.set_cons_zero, List.set_cons_succ, List.getElem_toArray, List.getElem_cons_zero, List.getElem_cons_succ]
      refine' wpAnyH_take (i := 3) (oi := _) (v := _) rfl (by kernel_rfl) (by kernel_rfl) (by kernel_rfl) (fun _ _ _ h => h) (Or.inl ⟨by rfl, ?hz14⟩) (by assumption) ?rezt14
      case hz14 => (intro w' hSw; (try dsimp only at hSw); go_simp; try with_reducible rfl)
      try simp only [Act.put, List.setIfInBounds_toArray, List.set_cons_zero, List.set_cons_succ, List.getElem_toArray, List.getElem_cons_zero, List.getElem_cons_succ]
      refine' wpAnyH_take (i := 4) (oi := _) (v := _) rfl (by kernel_rfl) (by kernel_rfl) (by kernel_rfl) (fun _ _ _ h => h) (Or.inl ⟨by rfl, ?hz15⟩) (by assumption) ?rezt15
      case hz15 => (intro w' hSw; (try dsimp only at hSw); go_simp; try with_reducible rfl)
      try simp only [Act.put, List.setIfInBounds_toArray, List.set_cons_zero, List.set_cons_succ, List.getElem_toArray, List.getElem_cons_zero, List.getElem_cons_succ]
      refine' wpAnyH_take (i := 5) (oi := _) (v := _) rfl (by kernel_rfl) (by kernel_rfl) (by kernel_rfl) (fun _ _ _ h => h) (Or.inl ⟨by rfl, ?hz16⟩) (by assumption) ?rezt16
      case hz16 => (intro w' hSw; (try dsimp only at hSw); go_simp; try with_reducible rfl)
      try simp only [Act.put, List.setIfInBounds_toArray, List.set_cons_zero, List.set_cons_succ, List.getElem_toArray, List.getElem_cons_zero, List.getElem_cons_succ]
      refine' wpAnyH_take (i := 6) (oi := _) (v := _) rfl (by kernel_rfl) (by kernel_rfl) (by kernel_rfl) (fun _ _ _ h => h) (Or.inl ⟨by rfl, ?hz17⟩) (by assumption) ?rezt17
      case hz17 => (intro w' hSw; (try dsimp only at hSw); go_simp; try with_reducible rfl)
      try simp only [Act.put, List.setIfInBounds_toArray, List.set_cons_zero, List.set_cons_succ, List.getElem_toArray, List.getElem_cons_zero, List.getElem_cons_succ]
      refine' wpAnyH_take (i := 7) (oi := _) (v := _) rfl (by kernel_rfl) (by kernel_rfl) (by kernel_rfl) (fun _ _ _ h => h) (Or.inl ⟨by rfl, ?hz18⟩) (by assumption) ?rezt18
      case hz18 => (intro w' hSw; (try dsimp only at hSw); go_simp; try with_reducible rfl)
      try simp only [Act.put, List.setIfInBounds_toArray, List.set_cons_zero, List.set_cons_succ, List.getElem_toArray, List.getElem_cons_zero, List.getElem_cons_succ]
      refine' wpAnyH_take (i := 8) (oi := _) (v := _) rfl (by kernel_rfl) (by kernel_rfl) (by kernel_rfl) (fun _ _ _ h => h) (Or.inl ⟨by rfl, ?hz19⟩) (by assumption) ?rezt19
      case hz19 => (intro w' hSw; (try dsimp only at hSw); go_simp; try with_reducible rfl)
      try simp only [Act.put, List.setIfInBounds_toArray, List.set_cons_zero, List.set_cons_succ, List.getElem_toArray, List.getElem_cons_zero, List.getElem_cons_succ]
      have hpd : Pt w w4.drew n (some ⟨bl, off, none⟩) c := HP4.out.keep (Below.refl _ _).drew
      obtain ⟨wa, hwa⟩ : ∃ W, W = (w4.drew).setCells (w.heap.size + 1) 0 (ndC m A8 c8) := ⟨_, rfl⟩
      have HPa := Lib.hid (show Pt w wa n (some ⟨bl, off, none⟩) c by rw [hwa]; exact hpd.sets _ (by omega) _)
      have HRa := Lib.hid (show NdAt wa (w.heap.size + 1) m A8 c8 by rw [hwa]; exact NdAt.stored hpd.r1 _ _ _)
      have HNa := Lib.hid (show NdAt wa g8 m A8 c8 by rw [hwa]; exact (HN4.out.keep (Below.refl _ w4).drew).ne (heap_setCells_ne _ _ _ _ (by omega)))
      have HOa := Lib.hid (show OwnCl wa 0 (w.heap.size + 3) A8 (m).cs.length c8 (m).cs by rw [hwa]; exact (HO4.out.keep (Below.refl _ w4).drew).low hpd.y1 (by omega) (by decide) (Nat.zero_le _) (fun i hi _ => heap_setCells_ne _ _ _ _ hi))
      refine wpAnyH_ready (rs := [9]) (by kernel_rfl) (by simp) ?_
      refine AllReadyH.cons (o := _) rfl (fun K hK => ?_) AllReadyH.nil
      refine step_store_nd rfl _ _ rfl (w.heap.size + 1) m A8 c8 rfl rfl hpd.r1 ?_
      rw [← hwa]
      refine hK.out _ _ ?_ (fun hHeld => ?_)
      · exact ⟨HPa.out, HNa.out⟩
      clear hK K
      try simp only [Act.put, List.setIfInBounds_toArray, List.set_cons_zero, List.set_cons_succ, List.getElem_toArray, List.getElem_cons_zero, List.getElem_cons_succ]
      obtain ⟨wb, hwb⟩ : ∃ W, W = wa.setCells (w.heap.size + 2) 0 (clC { zeroC with key := ky } none 0 0) := ⟨_, rfl⟩
      have HPb := Lib.hid (show Pt w wb n (some ⟨bl, off, none⟩) c by rw [hwb]; exact HPa.out.sets _ (by omega) _)
      have HRb := Lib.hid (show NdAt wb (w.heap.size + 1) m A8 c8 by rw [hwb]; exact HRa.out.ne (heap_setCells_ne _ _ _ _ (by omega)))
      have HNb := Lib.hid (show NdAt wb g8 m A8 c8 by rw [hwb]; exact HNa.out.ne (heap_setCells_ne _ _ _ _ (by omega)))
      have HCb := Lib.hid (show ClAt wb (w.heap.size + 2) { zeroC with key := ky } none 0 0 by rw [hwb]; exact ClAt.stored HPa.out.r2 _ _ _ _)
      have HOb := Lib.hid (show OwnCl wb 0 (w.heap.size + 3) A8 m.cs.length c8 m.cs by rw [hwb]; exact HOa.out.low HPa.out.y2 (by omega) (by decide) (Nat.zero_le _) (fun i hi _ => heap_setCells_ne _ _ _ _ hi))
      refine wpAnyH_ready (rs := [10]) (by kernel_rfl) (by simp) ?_
      refine AllReadyH.cons (o := _) rfl (fun K hK => ?_) AllReadyH.nil
      refine step_store_cl rfl _ _ rfl (w.heap.size + 2) { zeroC with key := ky } none 0 0 rfl rfl HPa.out.r2 ?_
      rw [← hwb]
      refine hK.out _ _ ?_ (fun hHeld => ?_)
      · exact ⟨HPb.out, HNb.out⟩
      clear hK K
      try simp only [Act.put, List.setIfInBounds_toArray, List.set_cons_zero, List.set_cons_succ, List.getElem_toArray, List.getElem_cons_zero, List.getElem_cons_succ]
      refine wpAnyH_done (by kernel_rfl) ?_ _
      clear F1 F7
      repeat go_step
      refine ret_nd_cl rfl rfl rfl HRb.out HCb.out rfl ?_
      rw [HR.out]
      refine ⟨A8, c8, none, 0, { zeroC with key := ky }, by rw [← HM.out] <;> rfl, fun _ => ?_, ?_, .inl ⟨.inl rfl, fun _ h => by cases h⟩, Nat.zero_le _, Nat.zero_le _, HPb.out.bel⟩
      · unfold sepI; rw [if_pos HK.out, HKY.out]
      · rw [← HM.out]; exact HOb.out.mono (by omega)
    · have q1 : (n.kind == 1) = false := by simp [hk]
      have HK := Lib.hid hk
      clear hk
      by_cases hbn : b = n.cs.length
      · have q2 : ((b : Int) == (n.cs.length : Int)) = true := by simp [hbn]
        have HBN := Lib.hid hbn
        obtain ⟨m, hm⟩ : ∃ x : Nd, (⟨n.kind, n.right, cs'⟩ : Nd) = x := ⟨_, rfl⟩
        have hmc : cs' = m.cs := by rw [← hm]
        rw [hm] at HN4
        have HM := Lib.hid (show m = nodeI n a b by rw [← hm]; unfold nodeI rtI; rw [if_pos (.inr HBN.out), HCS.out])
        rw [hmc] at HO4
        clear hbn hm hmc
        go_upto_region 5 with fail
        clear x0 x1 x2
        go_step
        refine wp_load_nd rfl _ rfl g8 m A8 c8 rfl HN4.out ?_
        iterate 3 go_step
        refine wp_store_nd rfl _ _ rfl (w.heap.size + 1) m A8 c8 rfl rfl HP4.out.r1 ?_
        have hpd : Pt w w4 n A c := HP4.out
        obtain ⟨wa, hwa⟩ : ∃ W, W = (w4).setCells (w.heap.size + 1) 0 (ndC m A8 c8) := ⟨_, rfl⟩
        have HPa := Lib.hid (show Pt w wa n A c by rw [hwa]; exact hpd.sets _ (by omega) _)
        have HRa := Lib.hid (show NdAt wa (w.heap.size + 1) m A8 c8 by rw [hwa]; exact NdAt.stored hpd.r1 _ _ _)
        have HNa := Lib.hid (show NdAt wa g8 m A8 c8 by rw [hwa]; exact HN4.out.ne (heap_setCells_ne _ _ _ _ (by omega)))
        have HOa := Lib.hid (show OwnCl wa 0 (w.heap.size + 3) A8 (m).cs.length c8 (m).cs by rw [hwa]; exact HO4.out.low hpd.y1 (by omega) (by decide) (Nat.zero_le _) (fun i hi _ => heap_setCells_ne _ _ _ _ hi))
        rw [← hwa]
        refine wp_store_cl rfl _ _ rfl (w.heap.size + 2) zeroC none 0 0 rfl rfl HPa.out.r2 ?_
        obtain ⟨wb, hwb⟩ : ∃ W, W = wa.setCells (w.heap.size + 2) 0 (clC zeroC none 0 0) := ⟨_, rfl⟩
        have HPb := Lib.hid (show Pt w wb n A c by rw [hwb]; exact HPa.out.sets _ (by omega) _)
        have HRb := Lib.hid (show NdAt wb (w.heap.size + 1) m A8 c8 by rw [hwb]; exact HRa.out.ne (heap_setCells_ne _ _ _ _ (by omega)))
        have HCb := Lib.hid (show ClAt wb (w.heap.size + 2) zeroC none 0 0 by rw [hwb]; exact ClAt.stored HPa.out.r2 _ _ _ _)
        have HOb := Lib.hid (show OwnCl wb 0 (w.heap.size + 3) A8 m.cs.length c8 m.cs by rw [hwb]; exact HOa.out.low HPa.out.y2 (by omega) (by decide) (Nat.zero_le _) (fun i hi _ => heap_setCells_ne _ _ _ _ hi))
        rw [← hwb]
        clear hwa hwb
        repeat go_step
        refine ret_nd_cl rfl rfl rfl HRb.out HCb.out rfl ?_
        rw [HR.out]
        refine ⟨A8, c8, none, 0, zeroC, by rw [← HM.out] <;> rfl, fun h => absurd HBN.out (by omega), ?_, .inl ⟨.inl rfl, fun _ h => by cases h⟩, Nat.zero_le _, Nat.zero_le _, HPb.out.bel⟩
        rw [← HM.out]; exact HOb.out.mono (by omega)
      · have q2 : ((b : Int) == (n.cs.length : Int)) = false := by simp; omega
        have hblt : b < n.cs.length := by omega
        have hcut2 := run_cutC A n.cs.length c b (b + 1) (by omega) (by omega)
        rw [show b + 1 - b = 1 by omega, show ((b + 1 : Nat) : Int) = (b : Int) + 1 from rfl] at hcut2
        have HCUT2 := Lib.hid (sgC_one hblt ▸ HA.out.cut c (a := b) (b := b + 1) (by omega) hlc : RdCl w (cutC A c b) [cl_ n.cs b])
        have HBN := Lib.hid hbn
        have HLB := Lib.hid (HLOC.out (cl_ n.cs b) (by rw [cl_lt hblt]; exact List.getElem_mem hblt))
        clear hbn
        go_upto_region 6 with fail
        go_wp2_with fail
        refine (ncopied_any _ (cutC A c b) 1 (c - b) [cl_ n.cs b] rfl (by omega) (fun d hd => by rw [(by simpa using hd : d = cl_ n.cs b)]; have := HLB.out; omega) (HCUT2.out.keep HP4.out.bel) _ rfl).mono ?_
        rintro e w5 ⟨A5, c5, rfl, hown5, hb5⟩
        obtain ⟨cl, hcl⟩ : ∃ x, cl_ n.cs b = x := ⟨_, rfl⟩
        rw [hcl] at hown5
        have HCL := Lib.hid hcl
        obtain ⟨_, vs5, hrow5, hv5⟩ := hown5
        obtain ⟨LA, d5, hrg5, hd1, hd2, hloc5⟩ := hv5.2 0 (by simp)
        have hg5 : ∃ g5, A5 = some ⟨g5, 0, none⟩ := by
          rcases hrow5.2 with ⟨hv, hn⟩ | ⟨g, cap, cur, hv, _⟩
          · omega
          · injection hv with e1; exact ⟨g, e1⟩
        obtain ⟨g5, rfl⟩ := hg5
        have hc0 : cl_ [cl] 0 = cl := rfl
        rw [hc0] at hrg5 hd1 hloc5
        have HRG5 := Lib.hid (show w5.rangeAt g5 0 (clC cl LA cl.loc.length d5) from fun j u hu => by
          have := World.ownsRow.cells hrow5 (g := g5) rfl _ u (hrg5 j u hu)
          rw [Nat.zero_add]
          simpa [Addr.add_lit] using this)
        have HLC5 := Lib.hid hloc5
        have HP5 := Lib.hid (HP4.out.keep hb5)
        have HN5 := Lib.hid (HN4.out.keep hb5)
        have HT5 := Lib.hid (there_keepR HT4.out hb5 hl8)
        have HY5 := Lib.hid (HY4.out.keepB hb5 hl8)
        have HO5 := Lib.hid (HO4.out.keep hb5)
        have hz5 := hb5.size
        clear hcl hrow5 hv5 hrg5 hloc5 hb5 hcut2 hc0 x0 x1 x2 HN4 HT4 HY4 HO4
        simp only []
        iterate 4 go_step
        refine wp_load_clo rfl _ rfl g5 0 cl LA cl.loc.length d5 rfl HRG5.out ?_
        iterate 3 go_step
        obtain ⟨W6, hW6⟩ : ∃ W, W = w5.alloc (.cells #[.int .i64 0, .int .i64 0, .int .i64 0, .slice none 0 0, .int .i64 0] 55) := ⟨_, rfl⟩
        have HT6 := Lib.hid (show W6.there w5.heap.size 0 5 by rw [hW6]; exact there_new5 w5 _ _ _ _ _ _)
        have HYC6 := Lib.hid (show TyAt W6 w5.heap.size 55 by rw [hW6]; exact TyAt.new w5 _ _)
        have hb56 : Below w5.heap.size w5 W6 := by rw [hW6]; exact (Below.refl _ _).alloc (Nat.le_refl _) _
        have hl6 : w5.heap.size < W6.heap.size := by rw [hW6]; simp
        rw [← hW6]
        clear hW6
        refine wp_store_cl rfl _ _ rfl w5.heap.size cl LA cl.loc.length d5 rfl rfl HT6.out ?_
        obtain ⟨w6, hw6⟩ : ∃ W, W = W6.setCells w5.heap.size 0 (clC cl LA cl.loc.length d5) := ⟨_, rfl⟩
        have HRG6 := Lib.hid (show w6.rangeAt w5.heap.size 0 (clC cl LA cl.loc.length d5) by rw [hw6]; exact World.rangeAt_setCells_same _ _ _ _ HT6.out)
        have HTC6 := Lib.hid (show w6.there w5.heap.size 0 5 by rw [hw6]; exact World.there_setCells HT6.out _ _ _)
        have hb6 : Below w5.heap.size w5 w6 := by rw [hw6]; exact below_setCellsR hb56 (Nat.le_refl _) _ _
        have hl6' : w5.heap.size < w6.heap.size := by rw [hw6, size_setCells]; exact hl6
        have HP6 := Lib.hid (HP5.out.keep hb6)
        have HN6 := Lib.hid (HN5.out.keep hb6)
        have HT6' := Lib.hid (there_keepR HT5.out hb6 (by omega))
        have HY6 := Lib.hid (HY5.out.keepB hb6 (by omega))
        have HO6 := Lib.hid (HO5.out.keep hb6)
        have HLC6 := Lib.hid (HLC5.out.keep hb6)
        have hA9 := HO5.out.ltOf
        have HYC6' := Lib.hid (show TyAt w6 w5.heap.size 55 by rw [hw6]; exact TyAt.sets _ _ _ _ HYC6.out)
        rw [← hw6]
        obtain ⟨g9, hg9⟩ : ∃ x, w5.heap.size = x := ⟨_, rfl⟩
        rw [hg9] at HRG6 HTC6 HYC6' hA9 hl6' hz5 ⊢
        have h89 : g8 < g9 := by omega
        clear hw6 hb56 hb6 HT6 HYC6 hl6 hg9 HP5 HN5 HT5 HY5 HO5 HLC5 HRG5
        have c1 := HRG6.out 1 _ rfl
        rw [Nat.zero_add] at c1
        have f2 := (HT6'.out 2 (by decide)).2
        rw [Nat.zero_add] at f2
        have f1 := (HTC6.out 1 (by decide)).2
        rw [Nat.zero_add] at f1
        have c82 := HN6.out.all.2.2
        obtain ⟨w7, hw7⟩ : ∃ W, W = (w6.setCell ⟨g8, 2, none⟩ (.int .i64 cl.child)).setCell ⟨g9, 1, none⟩ (.int .i64 0) := ⟨_, rfl⟩
        have e7 : ∀ i, i ≠ g8 → i ≠ g9 → w7.heap[i]? = w6.heap[i]? := fun i h1 h2 => by rw [hw7, heap_setG_ne _ _ _ h2, heap_setG_ne _ _ _ h1]
        have e79 : (w6.setCell ⟨g8, 2, none⟩ (.int .i64 cl.child)).heap[g9]? = w6.heap[g9]? := heap_setG_ne _ _ _ (show g9 ≠ (⟨g8, 2, none⟩ : Addr).block from Nat.ne_of_gt h89)
        have HN7 := Lib.hid (show NdAt w7 g8 ⟨n.kind, cl.child, cs'⟩ A8 c8 by rw [hw7]; exact (HN6.out.setRt cl.child).ne (heap_setG_ne _ _ _ (show g8 ≠ (⟨g9, 1, none⟩ : Addr).block from Nat.ne_of_lt h89)))
        have HRG7 := Lib.hid (show w7.rangeAt g9 0 (clC { cl with child := 0 } LA cl.loc.length d5) by
          rw [hw7]
          refine range_set1 (c := cl) ?_ 0
          intro j u hu
          rw [← HRG6.out j u hu]
          simp [World.cell?, e79])
        have hb67 : Below (w.heap.size + 3) w6 w7 := by rw [hw7]; exact ((Below.refl _ _).setCell (show w.heap.size + 3 ≤ (⟨g8, 2, none⟩ : Addr).block from hg8) _).setCell (show w.heap.size + 3 ≤ (⟨g9, 1, none⟩ : Addr).block from Nat.le_trans hg8 (Nat.le_of_lt h89)) _
        have HP7 := Lib.hid (HP6.out.keepB hb67)
        have HO7 := Lib.hid (show OwnCl w7 0 (w.heap.size + 3) A8 cs'.length c8 cs' by
          rw [hw7]
          exact (HO6.out.ty HY6.out (by decide) (by decide) (Nat.zero_le _) (fun i hi _ => heap_setG_ne _ _ _ hi)).other (HYC6'.out.set _ _) (fun a ha e => by have := hA9 a ha; omega) (by decide) (fun i hi _ => heap_setG_ne _ _ _ hi))
        have HLC7 := Lib.hid (show Loc w7 0 LA cl.loc d5 by
          rw [hw7]
          exact (HLC6.out.ty HY6.out (by decide) (fun i hi _ => heap_setG_ne _ _ _ hi)).ty (HYC6'.out.set _ _) (by decide) (fun i hi _ => heap_setG_ne _ _ _ hi))
        have HYC7 := Lib.hid (show TyAt w7 g9 55 by rw [hw7]; exact (HYC6'.out.set _ _).set _ _)
        have hl7 : g9 < w7.heap.size := HYC7.out.lt
        have HW7 := Lib.hid hw7
        clear hw7 e7 e79 hb67
        go_upto_region 8 with fail
        rw [← HW7.out]
        clear HW7 c1 f1 f2 c82
        obtain ⟨m, hm⟩ : ∃ x : Nd, (⟨n.kind, cl.child, cs'⟩ : Nd) = x := ⟨_, rfl⟩
        have hmc : cs' = m.cs := by rw [← hm]
        rw [hm] at HN7
        have HM := Lib.hid (show m = nodeI n a b by rw [← hm]; unfold nodeI rtI; rw [if_neg (by rintro (q | q); exact HK.out q; exact HBN.out q), HCS.out, HCL.out])
        rw [hmc] at HO7
        obtain ⟨sp, hsp⟩ : ∃ x : Cl, ({ cl with child := 0 } : Cl) = x := ⟨_, rfl⟩
        have hlsp : cl.loc = sp.loc := by rw [← hsp]
        rw [hsp, hlsp] at HRG7
        have HSP := Lib.hid (show sp = sepI n b by rw [← hsp]; unfold sepI; rw [if_neg HK.out, HCL.out])
        rw [hlsp] at HLC7 hd1
        clear hm hmc hsp hlsp
        have HP4 := HP7
        refine wp_region_held_drew (S := (fun W => Pt w W n A c ∧ NdAt W g8 m A8 c8 ∧ W.rangeAt g9 0 (clC sp LA sp.loc.length d5))) (by kernel_rfl) ?_ (fun hHeld => ?_)
        · exact ⟨HP7.out.keep (Below.refl _ w7).drew, HN7.out.keep (Below.refl _ w7).drew, rangeKeep HRG7.out (Below.refl _ w7).drew hl7⟩
        refine' wpAnyH_take (i := 0) (oi := _) (v := m.val A8 c8) rfl (by kernel_rfl) (by kernel_rfl) (by kernel_rfl) (fun _ _ _ h => h) (yieldsIf_load_mid (by rfl) 69 _ rfl g8 0 rfl (ndC m A8 c8) _ (fun W hW => hW.2.1) Try.underlying69 rfl size_nd) (by assumption) ?rezl2
        try simp only [Act.put, List.setIfInBounds_toArray, List.set_cons_zero, List.set_cons_succ, List.getElem_toArray, List.getElem_cons_zero, List.getElem_cons_succ]
        refine' wpAnyH_take (i := 1) (oi := _) (v := sp.val LA sp.loc.length d5) rfl (by kernel_rfl) (by kernel_rfl) (by kernel_rfl) (fun _ _ _ h => h) (yieldsIf_load_mid (by rfl) 55 _ rfl g9 0 rfl (clC sp LA sp.loc.length d5) _ (fun W hW => hW.2.2) Try.underlying55 rfl size_cl) (by assumption) ?rezl3
        try simp only [Act.put, List.setIfInBounds_toArray, List.set_cons_zero, List.set_cons_succ, List.getElem_toArray, List.getElem_cons_zero, List.getElem_cons_succ]
        have hpd : Pt w w7.drew n A c := HP7.out.keep (Below.refl _ _).drew
        obtain ⟨wa, hwa⟩ : ∃ W, W = (w7.drew).setCells (w.heap.size + 1) 0 (ndC m A8 c8) := ⟨_, rfl⟩
        have HPa := Lib.hid (show Pt w wa n A c by rw [hwa]; exact hpd.sets _ (by omega) _)
        have HRa := Lib.hid (show NdAt wa (w.heap.size + 1) m A8 c8 by rw [hwa]; exact NdAt.stored hpd.r1 _ _ _)
        have HNa := Lib.hid (show NdAt wa g8 m A8 c8 by rw [hwa]; exact (HN7.out.keep (Below.refl _ w7).drew).ne (heap_setCells_ne _ _ _ _ (by omega)))
        have HGa := Lib.hid (show wa.rangeAt g9 0 (clC sp LA sp.loc.length d5) by rw [hwa]; exact rangeNe (rangeKeep HRG7.out (Below.refl _ w7).drew hl7) (heap_setCells_ne _ _ _ _ (by omega)))
        have HLa := Lib.hid (show Loc wa 0 LA sp.loc d5 by rw [hwa]; exact (HLC7.out.keep (Below.refl _ w7).drew).ty hpd.y1 (by decide) (fun i hi _ => heap_setCells_ne _ _ _ _ hi))
        have HOa := Lib.hid (show OwnCl wa 0 (w.heap.size + 3) A8 m.cs.length c8 m.cs by rw [hwa]; exact (HO7.out.keep (Below.refl _ w7).drew).low hpd.y1 (by omega) (by decide) (Nat.zero_le _) (fun i hi _ => heap_setCells_ne _ _ _ _ hi))
        refine wpAnyH_ready (rs := [2]) (by kernel_rfl) (by simp) ?_
        refine AllReadyH.cons (o := _) rfl (fun K hK => ?_) AllReadyH.nil
        refine step_store_nd rfl _ _ rfl (w.heap.size + 1) m A8 c8 rfl rfl hpd.r1 ?_
        rw [← hwa]
        refine hK.out _ _ ?_ (fun hHeld => ?_)
        · exact ⟨HPa.out, HNa.out, HGa.out⟩
        clear hK K
        try simp only [Act.put, List.setIfInBounds_toArray, List.set_cons_zero, List.set_cons_succ, List.getElem_toArray, List.getElem_cons_zero, List.getElem_cons_succ]
        obtain ⟨wb, hwb⟩ : ∃ W, W = wa.setCells (w.heap.size + 2) 0 (clC sp LA sp.loc.length d5) := ⟨_, rfl⟩
        have HPb := Lib.hid (show Pt w wb n A c by rw [hwb]; exact HPa.out.sets _ (by omega) _)
        have HRb := Lib.hid (show NdAt wb (w.heap.size + 1) m A8 c8 by rw [hwb]; exact HRa.out.ne (heap_setCells_ne _ _ _ _ (by omega)))
        have HNb := Lib.hid (show NdAt wb g8 m A8 c8 by rw [hwb]; exact HNa.out.ne (heap_setCells_ne _ _ _ _ (by omega)))
        have HGb := Lib.hid (show wb.rangeAt g9 0 (clC sp LA sp.loc.length d5) by rw [hwb]; exact rangeNe HGa.out (heap_setCells_ne _ _ _ _ (by omega)))
        have HLb := Lib.hid (show Loc wb 0 LA sp.loc d5 by rw [hwb]; exact HLa.out.ty HPa.out.y2 (by decide) (fun i hi _ => heap_setCells_ne _ _ _ _ hi))
        have HCb := Lib.hid (show ClAt wb (w.heap.size + 2) sp LA sp.loc.length d5 by rw [hwb]; exact ClAt.stored HPa.out.r2 _ _ _ _)
        have HOb := Lib.hid (show OwnCl wb 0 (w.heap.size + 3) A8 m.cs.length c8 m.cs by rw [hwb]; exact HOa.out.low HPa.out.y2 (by omega) (by decide) (Nat.zero_le _) (fun i hi _ => heap_setCells_ne _ _ _ _ hi))
        refine wpAnyH_ready (rs := [3]) (by kernel_rfl) (by simp) ?_
        refine AllReadyH.cons (o := _) rfl (fun K hK => ?_) AllReadyH.nil
        refine step_store_cl rfl _ _ rfl (w.heap.size + 2) sp LA sp.loc.length d5 rfl rfl HPa.out.r2 ?_
        rw [← hwb]
        refine hK.out _ _ ?_ (fun hHeld => ?_)
        · exact ⟨HPb.out, HNb.out, HGb.out⟩
        clear hK K
        try simp only [Act.put, List.setIfInBounds_toArray, List.set_cons_zero, List.set_cons_succ, List.getElem_toArray, List.getElem_cons_zero, List.getElem_cons_succ]
        refine wpAnyH_done (by kernel_rfl) ?_ _
        repeat go_step
        refine ret_nd_cl rfl rfl rfl HRb.out HCb.out rfl ?_
        rw [HR.out]
        refine ⟨A8, c8, LA, d5, sp, by rw [← HM.out] <;> rfl, fun _ => HSP.out, ?_, HLb.out, hd1, hd2, HPb.out.bel⟩
        rw [← HM.out]; exact HOb.out.mono (by omega)
end
end Go.Proofs.Ytoeaffmlolapnaa
