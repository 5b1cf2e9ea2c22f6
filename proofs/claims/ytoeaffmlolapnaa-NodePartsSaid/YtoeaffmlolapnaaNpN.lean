/- Several texts of this proof as one: NdS, NdA, FrameE, NdB. Laid by merge.py. -/
import Derived.Test.YtoeaffmlolapnaaNpA
import Derived.Test.YtoeaffmlolapnaaNpB
import Derived.Test.YtoeaffmlolapnaaNpC
import Derived.Test.YtoeaffmlolapnaaNpD
import Derived.Test.YtoeaffmlolapnaaNpF
import Derived.Test.YtoeaffmlolapnaaNpG
import Derived.Test.YtoeaffmlolapnaaNpH
import Derived.Test.YtoeaffmlolapnaaNpJ
import Derived.Test.YtoeaffmlolapnaaNpK
import Derived.Test.YtoeaffmlolapnaaNpL
import Derived.ArgAppend
import Derived.BigQuiet
import Derived.ChangeOld
import Derived.Deep.DeepCutAuto
import Derived.Deep.Matrix
import Derived.Deep.MidRow
import Derived.Deep.QuietTactic
import Derived.Deep.RegionHeld3
import Derived.Deep.Slices
import Derived.Handy
import Derived.Laws.CopyOwn
import Derived.Laws.Externs
import Derived.Laws.ResultCell
import Derived.Lib.AppendStr
import Derived.Lib.Hide
import Derived.Lib.MakeNoZero
import Derived.Lib.SlBuf
import Derived.Lib.SliceRun
import Derived.Lib.SmallJoins
import Derived.Maps.AppendAt
import Derived.OpenShut
import Derived.ProofKit
import Derived.ShutString
import Derived.SizedLaws
import Derived.Test.YtoeaffmlolapnaaProg
import Derived.WalkKit
import Derived.WalkSpells
namespace Go.Proofs.Ytoeaffmlolapnaa
section
open Go.RowKit
set_option maxRecDepth 100000
def isSz (n : Int) : Prop := n = 256 ∨ n = 512 ∨ n = 1024 ∨ n = 2048 ∨ n = 4096
instance (n : Int) : Decidable (isSz n) := by unfold isSz; infer_instance
theorem sz_bits_all : (List.range 4097).all (fun k => (k < 256) || ((bits BinOp.and IntKind.i64 (k : Int) ((k : Int) - 1) == 0) == decide (isSz (k : Int)))) = true := by decide +kernel
theorem sz_bits {n : Int} (h0 : 256 ≤ n) (h1 : n ≤ 4096) : (bits BinOp.and IntKind.i64 n (n - 1) == 0) = decide (isSz n) := by
  obtain ⟨k, rfl⟩ := Int.eq_ofNat_of_zero_le (show 0 ≤ n by omega)
  have h := (List.all_eq_true.1 sz_bits_all) k (List.mem_range.2 (by omega))
  have hk : ¬ k < 256 := by omega
  simpa [hk] using h
theorem isSize_any (w : World) (n : Int) (hn : -9223372036854775808 ≤ n ∧ n ≤ 9223372036854775807) :
    Calls Try.prog 88 #[.int .i64 n] w fun e w' => e = .returned (.bool (decide (isSz n))) ∧ w = w' := by
  by_cases h0 : 256 ≤ n
  case neg =>
    rw [show decide (isSz n) = false from decide_eq_false (by unfold isSz; omega)]
    go_enter Try.func88, Try.ntmps88
    go_wp2_with fail
    go_ret
    exact ⟨rfl, rfl⟩
  by_cases h1 : n ≤ 4096
  case neg =>
    rw [show decide (isSz n) = false from decide_eq_false (by unfold isSz; omega)]
    go_enter Try.func88, Try.ntmps88
    go_wp2_with fail
    go_ret
    exact ⟨rfl, rfl⟩
  have hs := sz_bits h0 h1
  go_enter Try.func88, Try.ntmps88
  go_wp2_with fail
  go_ret
  exact ⟨ret_bool rfl, rfl⟩
set_option maxHeartbeats 4000000 in
theorem rSize_any (w : World) (n : Int) (hn : -9223372036854775808 ≤ n ∧ n ≤ 9223372036854775807) (R : Ending → World → Prop) (hR : R = fun e w' => e = .returned (.bool (decide (isSz n))) ∧ w = w') :
    Calls Try.prog 50 #[.int .i64 n] w R := by
  have HR := Lib.hid hR; clear hR
  go_enter Try.func50, Try.ntmps50
  go_wp2_with fail
  go_loop [3] (fun k => (k = .int .i64 256 ∨ (k = .int .i64 512 ∧ n ≠ 256) ∨ (k = .int .i64 1024 ∧ n ≠ 256 ∧ n ≠ 512) ∨ (k = .int .i64 2048 ∧ n ≠ 256 ∧ n ≠ 512 ∧ n ≠ 1024) ∨ (k = .int .i64 4096 ∧ n ≠ 256 ∧ n ≠ 512 ∧ n ≠ 1024 ∧ n ≠ 2048) ∨ (k = .int .i64 8192 ∧ ¬ isSz n))) (fun k => 8192 - (intOf k).toNat)
  case atStart => exact .inl rfl
  case round =>
    rcases hrel with rfl | ⟨rfl, h1⟩ | ⟨rfl, h1, h2⟩ | ⟨rfl, h1, h2, h3⟩ | ⟨rfl, h1, h2, h3, h4⟩ | ⟨rfl, h1⟩
    · by_cases e : n = 256
      · subst e
        have q : ((256 : Int) == 256) = true := rfl
        go_wp2_with fail
        rw [HR.out]
        exact ⟨rfl, rfl⟩
      · have q : ((256 : Int) == n) = false := by simp; exact fun h => e h.symm
        have q2 : IntKind.i64.wrap (256 * 2) = 512 := by decide
        have HE := Lib.hid e
        clear e
        go_wp2_with fail
        go_round
        case rel => exact .inr (.inl ⟨rfl, HE.out⟩)
        case measure => simp [intOf]
    · by_cases e : n = 512
      · subst e
        have q : ((512 : Int) == 512) = true := rfl
        go_wp2_with fail
        rw [HR.out]
        exact ⟨rfl, rfl⟩
      · have q : ((512 : Int) == n) = false := by simp; exact fun h => e h.symm
        have q2 : IntKind.i64.wrap (512 * 2) = 1024 := by decide
        have HE := Lib.hid e
        have H1 := Lib.hid h1
        clear e h1
        go_wp2_with fail
        go_round
        case rel => exact .inr (.inr (.inl ⟨rfl, H1.out, HE.out⟩))
        case measure => simp [intOf]
    · by_cases e : n = 1024
      · subst e
        have q : ((1024 : Int) == 1024) = true := rfl
        clear h1 h2
        go_wp2_with fail
        rw [HR.out]
        exact ⟨rfl, rfl⟩
      · have q : ((1024 : Int) == n) = false := by simp; exact fun h => e h.symm
        have q2 : IntKind.i64.wrap (1024 * 2) = 2048 := by decide
        have HE := Lib.hid e
        have H1 := Lib.hid h1
        have H2 := Lib.hid h2
        clear e h1 h2
        go_wp2_with fail
        go_round
        case rel => exact .inr (.inr (.inr (.inl ⟨rfl, H1.out, H2.out, HE.out⟩)))
        case measure => simp [intOf]
    · by_cases e : n = 2048
      · subst e
        have q : ((2048 : Int) == 2048) = true := rfl
        clear h1 h2 h3
        go_wp2_with fail
        rw [HR.out]
        exact ⟨rfl, rfl⟩
      · have q : ((2048 : Int) == n) = false := by simp; exact fun h => e h.symm
        have q2 : IntKind.i64.wrap (2048 * 2) = 4096 := by decide
        have HE := Lib.hid e
        have H1 := Lib.hid h1
        have H2 := Lib.hid h2
        have H3 := Lib.hid h3
        clear e h1 h2 h3
        go_wp2_with fail
        go_round
        case rel => exact .inr (.inr (.inr (.inr (.inl ⟨rfl, H1.out, H2.out, H3.out, HE.out⟩))))
        case measure => simp [intOf]
    · by_cases e : n = 4096
      · subst e
        have q : ((4096 : Int) == 4096) = true := rfl
        clear h1 h2 h3 h4
        go_wp2_with fail
        rw [HR.out]
        exact ⟨rfl, rfl⟩
      · have q : ((4096 : Int) == n) = false := by simp; exact fun h => e h.symm
        have q2 : IntKind.i64.wrap (4096 * 2) = 8192 := by decide
        have HE := Lib.hid (show ¬ isSz n by unfold isSz; omega)
        clear e h1 h2 h3 h4
        go_wp2_with fail
        go_round
        case rel => exact .inr (.inr (.inr (.inr (.inr ⟨rfl, HE.out⟩))))
        case measure => simp [intOf]
    · have H1 := Lib.hid h1
      clear h1
      go_wp2_with fail
      rw [HR.out, decide_eq_false H1.out]
      exact ⟨rfl, rfl⟩
end
section
open Go.RowKit
set_option maxRecDepth 100000
set_option linter.unusedVariables false
set_option linter.unusedSimpArgs false
set_option linter.unnecessarySimpa false
structure Nd where
  (kind right : Int)
  cs : List Cl
deriving DecidableEq
def zeroN : Nd := ⟨0, 0, []⟩
instance : Inhabited Cl := ⟨zeroC⟩
def cl_ (cs : List Cl) (i : Nat) : Cl := cs.getD i zeroC
theorem cl_lt {cs : List Cl} {i : Nat} (h : i < cs.length) : cl_ cs i = cs[i] := by simp [cl_, h]
def ClOk (c : Cl) : Prop := c.ok ∧ IsB c.loc
def NdOk (n : Nd) : Prop := i64b n.kind ∧ i64b n.right ∧ ∀ c ∈ n.cs, ClOk c
/-- A cell that lies at a place. -/
def CellAt (w : World) (b o : Nat) (c : Cl) : Prop := ∃ A d, w.rangeAt b o (clC c A c.loc.length d) ∧ c.loc.length ≤ d ∧ d ≤ maxLen ∧ Rd w A c.loc
theorem rangeLt {w : World} {b o : Nat} {v : Value} {vs : List Value} (h : w.rangeAt b o (v :: vs)) : b < w.heap.size := World.block_lt_of_cell? w ⟨b, o + 0, none⟩ (h 0 v rfl)
theorem rangeKept {w w' : World} {b o : Nat} {v : Value} {vs : List Value} (h : w.rangeAt b o (v :: vs)) (hb : Below w.heap.size w w') : w'.rangeAt b o (v :: vs) := rangeKeep h hb (rangeLt h)
theorem CellAt.keep {w w' : World} {b o : Nat} {c : Cl} (h : CellAt w b o c) (hb : Below w.heap.size w w') : CellAt w' b o c := by
  obtain ⟨A, d, h1, h2, h3, h4⟩ := h
  exact ⟨A, d, rangeKept h1 hb, h2, h3, h4.keep hb⟩
def RdCl (w : World) (A : Option Addr) (cs : List Cl) : Prop := cs = [] ∨ ∃ b off, A = some ⟨b, off, none⟩ ∧ ∀ i, i < cs.length → CellAt w b (off + i * 5) (cl_ cs i)
theorem RdCl.keep {w w' : World} {A : Option Addr} {cs : List Cl} (h : RdCl w A cs) (hb : Below w.heap.size w w') : RdCl w' A cs := by
  rcases h with h | ⟨b, off, rfl, h⟩
  · exact .inl h
  · exact .inr ⟨b, off, rfl, fun i hi => (h i hi).keep hb⟩
theorem RdCl.at {w : World} {A : Option Addr} {cs : List Cl} (h : RdCl w A cs) (hl : 0 < cs.length) : ∃ b off, A = some ⟨b, off, none⟩ ∧ ∀ i, i < cs.length → CellAt w b (off + i * 5) (cl_ cs i) := by
  rcases h with rfl | h
  · simp at hl
  · exact h
theorem RdCl.nil (w : World) (A : Option Addr) : RdCl w A [] := .inl rfl
def Nd.val (n : Nd) (A : Option Addr) (c : Nat) : Value := .agg #[.int .i64 n.kind, .slice A n.cs.length c, .int .i64 n.right]
def ndC (n : Nd) (A : Option Addr) (c : Nat) : List Value := [.int .i64 n.kind, .slice A n.cs.length c, .int .i64 n.right]
def NdAt (w : World) (g : Nat) (n : Nd) (A : Option Addr) (c : Nat) : Prop := w.rangeAt g 0 (ndC n A c)
theorem NdAt.lt {w : World} {g : Nat} {n : Nd} {A : Option Addr} {c : Nat} (h : NdAt w g n A c) : g < w.heap.size := rangeLt h
theorem NdAt.keep {w w' : World} {g : Nat} {n : Nd} {A : Option Addr} {c : Nat} (h : NdAt w g n A c) (hb : Below w.heap.size w w') : NdAt w' g n A c := rangeKept h hb
theorem NdAt.keepB {w w' : World} {g B : Nat} {n : Nd} {A : Option Addr} {c : Nat} (h : NdAt w g n A c) (hb : Below B w w') (hg : g < B) : NdAt w' g n A c := rangeKeep h hb hg
theorem NdAt.made (w : World) (n : Nd) (A : Option Addr) (c : Nat) (t : TypeId) : NdAt (w.alloc (.cells #[.int .i64 n.kind, .slice A n.cs.length c, .int .i64 n.right] t)) w.heap.size n A c := fun j v hv => by
  rw [Nat.zero_add, heap_cell (heap_alloc_new w _)]
  simpa [ndC] using hv
theorem NdAt.all {w : World} {g : Nat} {n : Nd} {A : Option Addr} {c : Nat} (h : NdAt w g n A c) : w.cell? ⟨g, 0, none⟩ = some (.int .i64 n.kind) ∧ w.cell? ⟨g, 1, none⟩ = some (.slice A n.cs.length c) ∧ w.cell? ⟨g, 2, none⟩ = some (.int .i64 n.right) := ⟨h 0 _ rfl, h 1 _ rfl, h 2 _ rfl⟩
theorem NdAt.stored {w : World} {g : Nat} (h : w.there g 0 3) (n : Nd) (A : Option Addr) (c : Nat) : NdAt (w.setCells g 0 (ndC n A c)) g n A c := World.rangeAt_setCells_same w g 0 _ h
theorem size_nd : (Try.prog.info? 69).map (·.size) = some 3 := by kernel_rfl
theorem one_nd (n : Nd) (A : Option Addr) (c : Nat) : (ndC n A c).toArray.all (·.oneCell') = true := all_oneCell_toArray (by intro u hu; simp [ndC] at hu; rcases hu with rfl | rfl | rfl <;> rfl)
theorem wp_store_nd {ops : Array Oper} {rest : List Oper} {op : Oper} {a : Act} {w : World} {Q : Exit → Act → World → Prop} (hgd : op.guard = none) (x y : Operand) (ho : op.op = .store 69 x y) (g : Nat) (n : Nd) (A : Option Addr) (c : Nat)
    (hx : a.eval x = .pointer (some ⟨g, 0, none⟩)) (hy : a.eval y = n.val A c) (ht : w.there g 0 3) (h : wpList Try.prog ops Q rest (a.put op.dst undef) (w.setCells g 0 (ndC n A c))) : wpList Try.prog ops Q (op :: rest) a w :=
  wpList_store_mid hgd 69 x y ho g 0 (ndC n A c).toArray hx hy ht size_nd (one_nd n A c) h
theorem wp_load_nd {ops : Array Oper} {rest : List Oper} {op : Oper} {a : Act} {w : World} {Q : Exit → Act → World → Prop} (hgd : op.guard = none) (x : Operand) (ho : op.op = .load 69 x) (g : Nat) (n : Nd) (A : Option Addr) (c : Nat)
    (hx : a.eval x = .pointer (some ⟨g, 0, none⟩)) (hc : NdAt w g n A c) (h : wpList Try.prog ops Q rest (a.put op.dst (n.val A c)) w) : wpList Try.prog ops Q (op :: rest) a w :=
  wpList_load_mid hgd 69 x ho g 0 hx (ndC n A c) _ hc Try.underlying69 rfl size_nd h
theorem wp_load_ndg {ops : Array Oper} {rest : List Oper} {op : Oper} {a : Act} {w : World} {Q : Exit → Act → World → Prop} (hw : Region.wanted op (yielded ops a.tmps) = true) (x : Operand) (ho : op.op = .load 69 x) (g : Nat) (n : Nd) (A : Option Addr) (c : Nat)
    (hx : a.eval x = .pointer (some ⟨g, 0, none⟩)) (hc : NdAt w g n A c) (h : wpList Try.prog ops Q rest (a.put op.dst (n.val A c)) w) : wpList Try.prog ops Q (op :: rest) a w :=
  wpList_wantedR hw fun _ hK => wp_load_mid 69 x ho g 0 hx (ndC n A c) _ hc Try.underlying69 rfl size_nd (hK _ _ h)
theorem wp_load_clo {ops : Array Oper} {rest : List Oper} {op : Oper} {a : Act} {w : World} {Q : Exit → Act → World → Prop} (hgd : op.guard = none) (x : Operand) (ho : op.op = .load 55 x) (g o : Nat) (c : Cl) (A : Option Addr) (n d : Nat)
    (hx : a.eval x = .pointer (some ⟨g, o, none⟩)) (hc : w.rangeAt g o (clC c A n d)) (h : wpList Try.prog ops Q rest (a.put op.dst (c.val A n d)) w) : wpList Try.prog ops Q (op :: rest) a w :=
  wpList_load_mid hgd 55 x ho g o hx (clC c A n d) _ hc Try.underlying55 rfl size_cl h
theorem run_loadNd (w : World) (g : Nat) (n : Nd) (A : Option Addr) (c : Nat) (hc : NdAt w g n A c) : (loadVar 69 ⟨g, 0, none⟩).run Try.prog w = .ok (n.val A c) w := by
  obtain ⟨k0, k1, k2⟩ := hc.all
  simp [go_sem, loadVar, k0, k1, k2, Nd.val]
theorem ret_nd {fn : Func} {R : Ending → World → Prop} {a : Act} {w : World} {q u : Tmp} {g : Nat} {n : Nd} {A : Option Addr} {c : Nat} (hres : fn.results = #[.cell q 69, .tmp u]) (hp : a.tmps.getD q undef = .pointer (some ⟨g, 0, none⟩)) (hc : NdAt w g n A c) (hd : a.defers = [])
    (hR : R (.returned (.tuple #[n.val A c, a.tmps.getD u undef])) w) : bodyPost Try.prog fn R .ret a w := by
  refine bodyPost_ret (v := .tuple #[n.val A c, a.tmps.getD u undef]) ?_ hd hR
  rw [results_cell_tmp hres, hp]
  show ((loadVar 69 ⟨g, 0, none⟩).run Try.prog w).andThen _ = _
  rw [run_loadNd w g n A c hc]
  rfl
theorem there_new5 (w : World) (a b c d e : Value) (t : TypeId) : (w.alloc (.cells #[a, b, c, d, e] t)).there w.heap.size 0 5 := by
  intro j hj
  rcases (by omega : j = 0 ∨ j = 1 ∨ j = 2 ∨ j = 3 ∨ j = 4) with rfl | rfl | rfl | rfl | rfl <;> simp [go_sem]

def mayR (n : Nd) : Prop := isK n.kind ∧ (hasC n.kind → isP n.right) ∧ (¬ hasC n.kind → n.right = 0)
instance (n : Nd) : Decidable (mayR n) := by unfold mayR; infer_instance
def goodK (k : Int) (c : Cl) : Prop := goodC k c c.loc.length
instance (k : Int) (c : Cl) : Decidable (goodK k c) := by unfold goodK; infer_instance
def mayN (n : Nd) : Prop := mayR n ∧ ∀ c ∈ n.cs, goodK n.kind c
instance (n : Nd) : Decidable (mayN n) := by unfold mayN; infer_instance
def tkC (k : Int) (c : Cl) : Nat := (encC k c).length + 4
def takesN (k : Int) (cs : List Cl) : Nat := (cs.map (tkC k)).sum
theorem takesN_app (k : Int) (a b : List Cl) : takesN k (a ++ b) = takesN k a + takesN k b := by simp [takesN]
theorem takesN_one (k : Int) (c : Cl) : takesN k [c] = tkC k c := by simp [takesN]
theorem takesN_take {k : Int} {cs : List Cl} {i : Nat} (h : i < cs.length) : takesN k (cs.take (i + 1)) = takesN k (cs.take i) + tkC k (cl_ cs i) := by
  rw [List.take_succ_eq_append_getElem h, takesN_app, takesN_one, cl_lt h]
def fewN (n : Nd) : Prop := n.cs.length ≤ 400 ∧ ∀ c ∈ n.cs, c.loc.length ≤ 16384
instance (n : Nd) : Decidable (fewN n) := by unfold fewN; infer_instance
theorem encC_len {k : Int} {c : Cl} (hc : c.ok) (hl : c.loc.length ≤ 16384) : (encC k c).length ≤ 16444 := by
  unfold encC
  split
  · have h1 := varL_ten hc.1
    have h2 := varL_ten hc.2.1
    have h3 := varL_ten hc.2.2.1
    have h4 := varL_ten hc.2.2.2
    have h5 := varL_ten (n := (c.loc.length : Int)) (by omega)
    unfold cellB childB keyB loadB spillB
    have e : ∀ (p : Prop) [Decidable p] (l : List Int), (if p then l else []).length ≤ l.length := fun p _ l => by split <;> simp
    have e2 : ∀ (p : Prop) [Decidable p] (l : List Int), (if p then [] else l).length ≤ l.length := fun p _ l => by split <;> simp
    have q1 := e (hasC k) (varL c.child)
    have q2 := e (hasK k) (varL c.key)
    have q3 := e2 (c.spill = 0) (varL c.spill)
    have q4 := e2 (k = 2) (varL c.total ++ (varL (c.loc.length : Int) ++ (c.loc ++ if c.spill = 0 then [] else varL c.spill)))
    simp only [List.length_append] at q4 ⊢
    omega
  · simp
end
section
open Go.ChangeShapes Go.WideShapes Go.ChangeAt Go.RowKit Go.Deep
set_option maxRecDepth 100000
set_option linter.unusedSimpArgs false
section
variable {H : Type} {enc : TypeId × Value → H} {P : Program} {W : World} {base : Nat}
theorem open_cl_cells {e : TypeId} {f0 f1 f2 f3 f4 : Field} {E : TypeId} {n : Nat} {b off : Nat} {cs' : List Value} {y : DataW H × List MemPlace} (he : P.underlying e = some (.struct #[f0, f1, f2, f3, f4])) (hone : oneCellFields P #[f0, f1, f2, f3, f4] = true)
    (h0 : P.underlying f0.type = some (.int .i64)) (h1 : P.underlying f1.type = some (.int .i64)) (h2 : P.underlying f2.type = some (.int .i64)) (h3 : P.underlying f3.type = some (.slice E)) (hE : P.underlying E = some (.int .u8)) (cE : P.cellsOf E = 1) (h4 : P.underlying f4.type = some (.int .i64))
    (hc : W.cells? base ⟨b, off, none⟩ 5 = some cs') (h : DataW.trod enc P W base (fun _ => true) true n e cs' = some y) : ∃ c : Cl, CellAt W b off c ∧ ClOk c := by
  obtain ⟨_, hlen, hcell⟩ := World.cells?_some hc
  obtain ⟨xs, k, _, _, hl, hxl, hf⟩ := DataW.trod_struct he h
  match cs', hlen with
  | [c0, c1, c2, c3, c4], _ =>
    have e0 := hcell 0 (by omega)
    have e1 := hcell 1 (by omega)
    have e2 := hcell 2 (by omega)
    have e3 := hcell 3 (by omega)
    have e4 := hcell 4 (by omega)
    match xs, hxl with
    | [y0, y1, y2, y3, y4], _ =>
      obtain ⟨o0, k0⟩ := hone_of hone 0 f0 rfl
      obtain ⟨a0, z0, _, w0⟩ := DataW.trod_int (cs := [c0]) h0 (by simpa [o0, k0] using hf 0 f0 rfl)
      simp at z0
      subst z0
      obtain ⟨o1, k1⟩ := hone_of hone 1 f1 rfl
      obtain ⟨a1, z1, _, w1⟩ := DataW.trod_int (cs := [c1]) h1 (by simpa [o1, k1] using hf 1 f1 rfl)
      simp at z1
      subst z1
      obtain ⟨o2, k2⟩ := hone_of hone 2 f2 rfl
      obtain ⟨a2, z2, _, w2⟩ := DataW.trod_int (cs := [c2]) h2 (by simpa [o2, k2] using hf 2 f2 rfl)
      simp at z2
      subst z2
      obtain ⟨o3, k3⟩ := hone_of hone 3 f3 rfl
      obtain ⟨A, m, d, l, q3, z1, z2, z3, z4, z5⟩ := open_bytes_cell (v := c3) h3 hE cE (by simpa [o3, k3] using hf 3 f3 rfl)
      subst q3
      subst z1
      obtain ⟨o4, k4⟩ := hone_of hone 4 f4 rfl
      obtain ⟨a4, z6, _, w4⟩ := DataW.trod_int (cs := [c4]) h4 (by simpa [o4, k4] using hf 4 f4 rfl)
      simp at z6
      subst z6
      refine ⟨⟨a0, a1, a2, a4, l⟩, ⟨A, d, ?_, z2, z3, z4⟩, ⟨wf_i64b w0, wf_i64b w1, wf_i64b w2, wf_i64b w4⟩, z5⟩
      intro j u hu
      have hj : j < 5 := (List.getElem?_eq_some_iff.1 hu).1
      rcases (by omega : j = 0 ∨ j = 1 ∨ j = 2 ∨ j = 3 ∨ j = 4) with rfl | rfl | rfl | rfl | rfl
      · rw [← hu]; simpa [Addr.add, clC] using e0
      · rw [← hu]; simpa [Addr.add, clC] using e1
      · rw [← hu]; simpa [Addr.add, clC] using e2
      · rw [← hu]; simpa [Addr.add, clC] using e3
      · rw [← hu]; simpa [Addr.add, clC] using e4
theorem open_cells_cell {t e : TypeId} {f0 f1 f2 f3 f4 : Field} {E : TypeId} {v : Value} {n : Nat} {y : DataW H × List MemPlace} (ht : P.underlying t = some (.slice e)) (he : P.underlying e = some (.struct #[f0, f1, f2, f3, f4])) (hone : oneCellFields P #[f0, f1, f2, f3, f4] = true) (ce : P.cellsOf e = 5)
    (h0 : P.underlying f0.type = some (.int .i64)) (h1 : P.underlying f1.type = some (.int .i64)) (h2 : P.underlying f2.type = some (.int .i64)) (h3 : P.underlying f3.type = some (.slice E)) (hE : P.underlying E = some (.int .u8)) (cE : P.cellsOf E = 1) (h4 : P.underlying f4.type = some (.int .i64))
    (h : DataW.trod enc P W base (fun _ => true) true n t [v] = some y) : ∃ A n c F, v = .slice A n c ∧ F.length = n ∧ n ≤ c ∧ c ≤ maxLen ∧ RdCl W A F ∧ ∀ f ∈ F, ClOk f := by
  rcases open_slice ht h with ⟨hcs, _⟩ | ⟨a, len, cap, m, k, D, Pl, hcs, _, hl, hm, hmm, _, hel⟩
  · simp at hcs
    subst hcs
    exact ⟨none, 0, 0, [], rfl, rfl, Nat.le_refl _, by unfold maxLen; omega, .inl rfl, by simp⟩
  · simp at hcs
    subst hcs
    simp only [if_true] at hmm
    subst hmm
    rw [ce] at hel
    by_cases hz : len = 0
    · subst hz
      exact ⟨some a, 0, m, [], rfl, rfl, Nat.zero_le _, hm, .inl rfl, by simp⟩
    · obtain ⟨b, off, spot⟩ := a
      have hs : spot = none := by
        obtain ⟨cs', hc, _⟩ := hel 0 (by omega)
        obtain ⟨_, hlen, hcell⟩ := World.cells?_some hc
        have h3 := hcell 0 (by omega)
        rw [List.getElem?_eq_getElem (by omega)] at h3
        simpa [Addr.add] using World.cell?_spot h3
      subst hs
      obtain ⟨g, hg⟩ := choose_lt (α := Cl) (p := fun i f => CellAt W b (off + i * 5) f ∧ ClOk f) (n := m) (fun i hi => by
        obtain ⟨cs', hc, ht'⟩ := hel i hi
        rw [add_plain] at hc
        exact open_cl_cells he hone h0 h1 h2 h3 hE cE h4 hc ht')
      refine ⟨_, _, _, (List.range len).map g, rfl, by simp, hl, hm, .inr ⟨b, off, rfl, fun i hi => ?_⟩, fun f hf => ?_⟩
      · have hi' : i < len := by simpa using hi
        have e : cl_ ((List.range len).map g) i = g i := by simp [cl_, hi']
        rw [e]
        exact (hg i (by omega)).1
      · obtain ⟨i, hi, rfl⟩ := List.mem_map.1 hf
        have hi' : i < len := by simpa using hi
        exact (hg i (by omega)).2
theorem open_node {t u e : TypeId} {g0 g1 g2 f0 f1 f2 f3 f4 : Field} {E : TypeId} {r : Reach} {b0 : Nat} {v : Value} {d : DataW H} {p : List MemPlace} (hs : P.underlying t = some (.struct #[g0, g1, g2])) (hone' : oneCellFields P #[g0, g1, g2] = true) (hC : P.cellsOf t = 3)
    (i0 : P.underlying g0.type = some (.int .i64)) (i1 : P.underlying g1.type = some (.slice e)) (i2 : P.underlying g2.type = some (.int .i64)) (_hu : g1.type = u)
    (he : P.underlying e = some (.struct #[f0, f1, f2, f3, f4])) (hone : oneCellFields P #[f0, f1, f2, f3, f4] = true) (ce : P.cellsOf e = 5)
    (h0 : P.underlying f0.type = some (.int .i64)) (h1 : P.underlying f1.type = some (.int .i64)) (h2 : P.underlying f2.type = some (.int .i64)) (h3 : P.underlying f3.type = some (.slice E)) (hE : P.underlying E = some (.int .u8)) (cE : P.cellsOf E = 1) (h4 : P.underlying f4.type = some (.int .i64))
    (hv : Value.okWide P W r b0 t v) (h : DataW.Trod enc P W base (fun _ => true) true t v d p) :
    ∃ n A c, v = Nd.val n A c ∧ NdOk n ∧ n.cs.length ≤ c ∧ c ≤ maxLen ∧ RdCl W A n.cs := by
  obtain ⟨c0, c1, c2, y0, y1, y2, m, rfl, rfl, rfl, hy0, hy1, hy2⟩ := Go.Joins.open_agg3 hs hone' hC hv h
  obtain ⟨a0, e0, _, w0⟩ := DataW.trod_int i0 hy0
  obtain ⟨a2, e2, _, w2⟩ := DataW.trod_int i2 hy2
  simp at e0 e2
  subst e0 e2
  obtain ⟨A, n, c, F, rfl, k1, k2, k3, k4, k5⟩ := open_cells_cell i1 he hone ce h0 h1 h2 h3 hE cE h4 hy1
  subst k1
  exact ⟨⟨a0, a2, F⟩, A, c, rfl, ⟨wf_i64b w0, wf_i64b w2, k5⟩, k2, k3, k4⟩
end
end
section
open Go.RowKit
set_option maxRecDepth 100000
set_option linter.unusedVariables false
set_option linter.unusedSimpArgs false
set_option linter.unnecessarySimpa false
theorem inner_any (w : World) (k : Int) : Calls Try.prog 108 #[.int .i64 k] w fun e w' => e = .returned (.bool (decide (hasC k))) ∧ w = w' := by
  by_cases h1 : k = 2
  · subst h1
    go_enter Try.func108, Try.ntmps108
    go_wp2_with fail
    go_ret
    exact ⟨ret_bool (by decide), rfl⟩
  · by_cases h2 : k = 4
    · subst h2
      have q : ((4 : Int) == 2) = false := rfl
      have q' : ((4 : Int) == 4) = true := rfl
      go_enter Try.func108, Try.ntmps108
      go_wp2_with fail
      go_ret
      exact ⟨ret_bool (by decide), rfl⟩
    · have q : (k == 2) = false := by simp [h1]
      have q' : (k == 4) = false := by simp [h2]
      rw [show decide (hasC k) = false from decide_eq_false (by unfold hasC; omega)]
      clear h1 h2
      go_enter Try.func108, Try.ntmps108
      go_wp2_with fail
      go_ret
      exact ⟨ret_bool rfl, rfl⟩

/-- A function value that tells of each cell. -/
def Tells (w : World) (f : Nat) (x : Value) (p : Cl → Bool) (cs : List Cl) : Prop :=
  ∀ (w' : World) (c : Cl) (A : Option Addr) (d : Nat), c ∈ cs → Below w.heap.size w w' → c.loc.length ≤ d → d ≤ maxLen → Rd w' A c.loc → Calls Try.prog f #[c.val A c.loc.length d, x] w' fun e w'' => e = .returned (.bool (p c)) ∧ Below w'.heap.size w' w''
def AnyBack (w : World) (p : Cl → Bool) (cs : List Cl) (e : Ending) (w' : World) : Prop := ∃ z : Int, e = .returned (.int .i64 z) ∧ (0 ≤ z ↔ ∃ c ∈ cs, p c = true) ∧ Below w.heap.size w w'

set_option maxHeartbeats 8000000 in
theorem indexF_any (w : World) (A : Option Addr) (n c : Nat) (cs : List Cl) (f : Nat) (x : Value) (p : Cl → Bool) (hn : cs.length = n) (hnm : n ≤ 100000) (hA : RdCl w A cs) (ht : Tells w f x p cs) (hf : ∀ (v : Value) (w : World), (callFunc f #[v, x]).run Try.prog w = .ok (.enter f #[v, x]) w) (R : Ending → World → Prop) (hR : R = AnyBack w p cs) :
    Calls Try.prog 111 #[.slice A n c, .func (.func f) #[] #[x]] w R := by
  have HR := Lib.hid hR; clear hR
  have HA := Lib.hid hA
  have HN := Lib.hid hn
  have HT := Lib.hid ht
  clear hA hn ht
  go_enter Try.func111, Try.ntmps111
  go_wp2_with fail
  go_loopw [8] (fun i wr => ∃ j : Nat, j ≤ n ∧ i = .int .i64 j ∧ (∀ d ∈ cs.take j, p d = false) ∧ Below w.heap.size w wr) (fun i _ => n - (intOf i).toNat)
  case atStart => exact ⟨0, Nat.zero_le _, rfl, by simp, Below.refl _ _⟩
  case round =>
    obtain ⟨j, hj, rfl, hno, hb⟩ := hrel
    have HNO := Lib.hid hno
    clear hno
    by_cases hlt : j < n
    · have hjF : j < cs.length := by rw [HN.out]; exact hlt
      have hlt' : (j : Int) < (n : Int) := by omega
      have i0 : (0 : Int) ≤ (j : Int) := by omega
      obtain ⟨b, off, hAe, hcell⟩ := (HA.out.keep hb).at (by omega)
      obtain ⟨LA, d, hrg, hd1, hd2, hrd⟩ := hcell j hjF
      have hmem : cl_ cs j ∈ cs := by rw [cl_lt hjF]; exact List.getElem_mem hjF
      have HCT := Lib.hid (show cs.take (j + 1) = cs.take j ++ [cl_ cs j] by rw [List.take_succ_eq_append_getElem hjF, cl_lt hjF])
      obtain ⟨cl, hcl⟩ : ∃ x, cl_ cs j = x := ⟨_, rfl⟩
      rw [hcl] at hrg hd1 hrd hmem HCT
      have HRG := Lib.hid hrg
      have HTC := Lib.hid (HT.out wr cl LA d hmem hb hd1 hd2 hrd)
      subst hAe
      clear hcell hrg hcl hmem hrd hjF
      go_upto_region 4 with fail
      iterate 13 go_step
      refine wp_load_clo rfl _ rfl b (off + j * 5) cl LA cl.loc.length d rfl HRG.out ?_
      go_wp2_with fail
      refine (HTC.out).mono ?_
      rintro e w1 ⟨rfl, hb1⟩
      have hb01 : Below w.heap.size w w1 := hb.trans (hb1.mono hb.size)
      clear hb1 HTC
      by_cases hp : p cl = true
      · rw [hp]
        have HP := Lib.hid hp
        clear hp
        go_wp2_with fail
        rw [HR.out]
        exact ⟨j, rfl, ⟨fun _ => ⟨cl, by
          have : cl ∈ cs.take (j + 1) := by rw [HCT.out]; simp
          exact List.mem_of_mem_take this, HP.out⟩, fun _ => by omega⟩, hb01⟩
      · have hp' : p cl = false := by simpa using hp
        rw [hp']
        have HP := Lib.hid hp'
        clear hp hp'
        go_wp2_with fail
        go_roundw
        case rel =>
          refine ⟨j + 1, by omega, by go_num, fun d hd => ?_, hb01⟩
          rw [HCT.out] at hd
          rcases List.mem_append.1 hd with h | h
          · exact HNO.out d h
          · obtain rfl : d = cl := by simpa using h
            exact HP.out
        case measure => simp [intOf]; omega
    · obtain rfl : j = n := by omega
      go_wp2_with fail
      rw [HR.out]
      refine ⟨-1, rfl, ⟨fun h => by omega, fun ⟨d, hd, hp⟩ => ?_⟩, hb⟩
      rw [HNO.out d (by rw [← HN.out, List.take_length]; exact hd)] at hp
      cases hp
theorem containsF_any (w : World) (A : Option Addr) (n c : Nat) (cs : List Cl) (f : Nat) (x : Value) (p : Cl → Bool) (hn : cs.length = n) (hnm : n ≤ 100000) (hA : RdCl w A cs) (ht : Tells w f x p cs) (hf : ∀ (v : Value) (w : World), (callFunc f #[v, x]).run Try.prog w = .ok (.enter f #[v, x]) w) :
    Calls Try.prog 98 #[.slice A n c, .func (.func f) #[] #[x]] w fun e w' => e = .returned (.bool (cs.any p)) ∧ Below w.heap.size w w' := by
  have HI := Lib.hid (indexF_any w A n c cs f x p hn hnm hA ht hf _ rfl)
  clear hn hA ht hf
  go_enter Try.func98, Try.ntmps98
  go_wp2_with fail
  refine HI.out.mono ?_
  rintro e w1 ⟨z, rfl, hz, hb⟩
  have HZ := Lib.hid (show cs.any p = decide (0 ≤ z) by
    by_cases h : 0 ≤ z
    · rw [decide_eq_true h, List.any_eq_true]; exact hz.1 h
    · rw [decide_eq_false h, Bool.eq_false_iff]
      intro h2
      rw [List.any_eq_true] at h2
      exact h (hz.2 h2))
  clear hz HI
  go_wp2_with fail
  go_ret
  exact ⟨ret_bool HZ.out.symm, hb⟩

/-- 'cell.Check(n.Kind, c) != api.OK'. -/
theorem right1_any (w : World) (n : Nd) (A : Option Addr) (c g : Nat) (hn : NdAt w g n A c) (hok : ∀ d ∈ n.cs, ClOk d) (hl : ∀ d ∈ n.cs, (d.loc.length : Int) ≤ 9223372036854775807) : Tells w 109 (.pointer (some ⟨g, 0, none⟩)) (fun c => !decide (goodK n.kind c)) n.cs := by
  intro w' cl LA d hmem hb hd1 hd2 hrd
  have HC := Lib.hid (hok cl hmem).1
  have HL := Lib.hid (hl cl hmem)
  have HAT := Lib.hid (hn.keepB hb hn.lt)
  have hgl : g < w'.heap.size := HAT.out.lt
  clear hn hok hl hmem hb
  obtain ⟨W0, hW0⟩ : ∃ W, W = w'.alloc (.cells #[.int .i64 cl.key, .int .i64 cl.child, .int .i64 cl.total, .slice LA cl.loc.length d, .int .i64 cl.spill] 55) := ⟨_, rfl⟩
  have hB0 : Below w'.heap.size w' W0 := by rw [hW0]; exact (Below.refl _ _).alloc (Nat.le_refl _) _
  have HR0 := Lib.hid (show W0.rangeAt w'.heap.size 0 (clC cl LA cl.loc.length d) by
    rw [hW0]
    intro j v hv
    rw [Nat.zero_add, heap_cell (heap_alloc_new w' _)]
    simpa [clC] using hv)
  have HW := Lib.hid hW0
  clear hW0
  have m0 := (HAT.out.keep hB0).all.1
  show Calls Try.prog 109 #[cl.val LA cl.loc.length d, .pointer (some ⟨g, 0, none⟩)] w' _
  unfold Cl.val
  go_enter Try.func109, Try.ntmps109
  go_upto_region 1 with fail
  rw [← HW.out]
  clear HW
  iterate 7 go_step
  refine wp_load_clo rfl _ rfl w'.heap.size 0 cl LA cl.loc.length d rfl HR0.out ?_
  go_wp2_with fail
  refine (checkC_any _ n.kind cl LA cl.loc.length d HC.out HL.out).mono ?_
  rintro e w1 ⟨rfl, hb1⟩
  have hb01 := hB0.trans (hb1.mono hB0.size)
  clear hb1 m0
  by_cases hg : goodK n.kind cl
  · have hz : checkZ n.kind cl cl.loc.length = 0 := if_pos hg
    rw [hz]
    have HG := Lib.hid hg
    clear hz hg
    have q : ((0 : Int) != 0) = false := rfl
    go_wp2_with fail
    go_ret
    exact ⟨ret_bool (by rw [decide_eq_true HG.out]; rfl), hb01⟩
  · have hz : checkZ n.kind cl cl.loc.length = 1 := if_neg hg
    rw [hz]
    have HG := Lib.hid hg
    clear hz hg
    have q : ((1 : Int) != 0) = true := rfl
    go_wp2_with fail
    go_ret
    exact ⟨ret_bool (by rw [decide_eq_false HG.out]; rfl), hb01⟩

set_option maxHeartbeats 16000000 in
theorem right_any (w : World) (n : Nd) (A : Option Addr) (c : Nat) (hn : n.cs.length ≤ 100000) (hok : NdOk n) (hl : ∀ d ∈ n.cs, (d.loc.length : Int) ≤ 9223372036854775807) (hA : RdCl w A n.cs) (R : Ending → World → Prop) (hR : R = fun e w' => e = .returned (.bool (decide (mayN n))) ∧ Below w.heap.size w w') :
    Calls Try.prog 89 #[n.val A c] w R := by
  have HR := Lib.hid hR; clear hR
  have HOK := Lib.hid hok
  have HL := Lib.hid hl
  obtain ⟨k0, k1⟩ := hok.1
  obtain ⟨r0, r1⟩ := hok.2.1
  obtain ⟨W0, hW0⟩ : ∃ W, W = w.alloc (.cells #[.int .i64 n.kind, .slice A n.cs.length c, .int .i64 n.right] 69) := ⟨_, rfl⟩
  have hB0 : Below w.heap.size w W0 := by rw [hW0]; exact (Below.refl _ _).alloc (Nat.le_refl _) _
  have HAT := Lib.hid (show NdAt W0 w.heap.size n A c by rw [hW0]; exact NdAt.made w n A c _)
  have HA0 := Lib.hid (hA.keep hB0)
  have HW := Lib.hid hW0
  have hs0 := hB0.size
  clear hW0 hok hl hA
  have F0 : ∀ W : World, Below W0.heap.size W0 W → W.cell? ⟨w.heap.size, 0, none⟩ = some (.int .i64 n.kind) := fun W hW => (HAT.out.keep hW).all.1
  have F2 : ∀ W : World, Below W0.heap.size W0 W → W.cell? ⟨w.heap.size, 2, none⟩ = some (.int .i64 n.right) := fun W hW => (HAT.out.keep hW).all.2.2
  have m0 := HAT.out.all.1
  unfold Nd.val
  by_cases hk : isK n.kind
  case neg =>
    rw [show decide (mayN n) = false from decide_eq_false (fun h => hk h.1.1)] at HR
    rcases (by unfold isK at hk; omega : n.kind < 1 ∨ (1 ≤ n.kind ∧ 4 < n.kind)) with h1 | ⟨h1, h2⟩
    all_goals
      clear hk F0 F2
      go_enter Try.func89, Try.ntmps89
      go_upto_region 1 with fail
      rw [← HW.out]
      clear HW
      go_wp2_with fail
      rw [HR.out]
      exact ⟨rfl, hB0⟩
  have hk1 : ¬ n.kind < 1 := by unfold isK at hk; omega
  have hk2 : ¬ 4 < n.kind := by unfold isK at hk; omega
  have HK := Lib.hid hk
  clear hk
  by_cases hc : hasC n.kind
  · have HD := Lib.hid (decide_eq_true hc)
    have HC := Lib.hid hc
    clear hc
    by_cases hr0 : n.right = 0
    · have HF := Lib.hid (show decide (mayN n) = false from decide_eq_false (fun h => by have := h.1.2.1 HC.out; unfold isP at this; omega))
      have q1 : (n.right != 0) = false := by simp [hr0]
      have q2 : (true != false) = true := rfl
      clear hr0
      go_enter Try.func89, Try.ntmps89
      go_upto_region 1 with fail
      rw [← HW.out]
      clear HW
      go_upto_region 3 with fail
      clear m0
      refine wp_region_held_drew (S := (fun W => Below W0.heap.size W0 W)) (by kernel_rfl) ?_ (fun hHeld => ?_)
      · exact (Below.refl _ W0).drew
      refine' wpAnyH_take (i := 0) (oi := _) (v := _) rfl (by kernel_rfl) (by kernel_rfl) (by kernel_rfl) (fun _ _ _ h => h) (Or.inl ⟨by rfl, ?hz1⟩) (by assumption) ?rezt1
      case hz1 => (intro w' hSw; (try dsimp only at hSw); go_simp; try with_reducible rfl)
      try simp only [Act.put, List.setIfInBounds_toArray, List.set_cons_zero, List.set_cons_succ, List.getElem_toArray, List.getElem_cons_zero, List.getElem_cons_succ]
      refine' wpAnyH_take (i := 1) (oi := _) (v := _) rfl (by kernel_rfl) (by kernel_rfl) (by kernel_rfl) (fun _ _ _ h => h) (Or.inl ⟨by rfl, ?hz2⟩) (by assumption) ?rezt2
      case hz2 => (intro w' hSw; (try dsimp only at hSw); go_simp; try with_reducible rfl)
      try simp only [Act.put, List.setIfInBounds_toArray, List.set_cons_zero, List.set_cons_succ, List.getElem_toArray, List.getElem_cons_zero, List.getElem_cons_succ]
      refine' wpAnyH_take (i := 3) (oi := _) (v := _) rfl (by kernel_rfl) (by kernel_rfl) (by kernel_rfl) (fun _ _ _ h => h) (Or.inl ⟨by rfl, ?hz3⟩) (by assumption) ?rezt3
      case hz3 => (intro w' hSw; (try dsimp only at hSw); go_simp; try with_reducible rfl)
      try simp only [Act.put, List.setIfInBounds_toArray, List.set_cons_zero, List.set_cons_succ, List.getElem_toArray, List.getElem_cons_zero, List.getElem_cons_succ]
      refine' wpAnyH_take (i := 4) (oi := _) (v := _) rfl (by kernel_rfl) (by kernel_rfl) (by kernel_rfl) (fun _ _ _ h => h) (Or.inl ⟨by rfl, ?hz4⟩) (by assumption) ?rezt4
      case hz4 => (intro w' hSw; (try dsimp only at hSw); go_simp; try with_reducible rfl)
      try simp only [Act.put, List.setIfInBounds_toArray, List.set_cons_zero, List.set_cons_succ, List.getElem_toArray, List.getElem_cons_zero, List.getElem_cons_succ]
      refine' wpAnyH_take (i := 5) (oi := _) (v := _) rfl (by kernel_rfl) (by kernel_rfl) (by kernel_rfl) (fun _ _ _ h => h) (Or.inl ⟨by rfl, ?hz5⟩) (by assumption) ?rezt5
      case hz5 => (intro w' hSw; (try dsimp only at hSw); go_simp; try with_reducible rfl)
      try simp only [Act.put, List.setIfInBounds_toArray, List.set_cons_zero, List.set_cons_succ, List.getElem_toArray, List.getElem_cons_zero, List.getElem_cons_succ]
      refine wpAnyH_ready (rs := [2]) (by kernel_rfl) (by simp) ?_
      refine AllReadyH.cons (o := _) rfl (fun K hK => ?_) AllReadyH.nil
      go_simp
      have hbd : Below W0.heap.size W0 W0.drew := (Below.refl _ W0).drew
      go_at_call 108
      refine (inner_any _ n.kind).mono ?_
      rintro e w1 ⟨rfl, rfl⟩
      rw [HD.out]
      refine hK.out _ _ ?_ (fun hHeld => ?_)
      · exact hbd
      clear hK K
      try simp only [Act.put, List.setIfInBounds_toArray, List.set_cons_zero, List.set_cons_succ, List.getElem_toArray, List.getElem_cons_zero, List.getElem_cons_succ]
      refine' wpAnyH_take (i := 6) (oi := _) (v := _) rfl (by kernel_rfl) (by kernel_rfl) (by kernel_rfl) (fun _ _ _ h => h) (Or.inl ⟨by rfl, ?hz6⟩) (by assumption) ?rezt6
      case hz6 => (intro w' hSw; (try dsimp only at hSw); go_simp; try with_reducible rfl)
      try simp only [Act.put, List.setIfInBounds_toArray, List.set_cons_zero, List.set_cons_succ, List.getElem_toArray, List.getElem_cons_zero, List.getElem_cons_succ]
      refine' wpAnyH_take (i := 7) (oi := _) (v := _) rfl (by kernel_rfl) (by kernel_rfl) (by kernel_rfl) (fun _ _ _ h => h) (Or.inl ⟨by rfl, ?hz7⟩) (by assumption) ?rezt7
      case hz7 => (intro w' hSw; (try dsimp only at hSw); go_simp; try with_reducible rfl)
      try simp only [Act.put, List.setIfInBounds_toArray, List.set_cons_zero, List.set_cons_succ, List.getElem_toArray, List.getElem_cons_zero, List.getElem_cons_succ]
      refine' wpAnyH_take (i := 8) (oi := _) (v := _) rfl (by kernel_rfl) (by kernel_rfl) (by kernel_rfl) (fun _ _ _ h => h) (Or.inr ⟨by rfl, rfl⟩) (by assumption) ?rezn1
      try simp only [Act.put, List.setIfInBounds_toArray, List.set_cons_zero, List.set_cons_succ, List.getElem_toArray, List.getElem_cons_zero, List.getElem_cons_succ]
      refine' wpAnyH_take (i := 9) (oi := _) (v := _) rfl (by kernel_rfl) (by kernel_rfl) (by kernel_rfl) (fun _ _ _ h => h) (Or.inr ⟨by rfl, rfl⟩) (by assumption) ?rezn2
      try simp only [Act.put, List.setIfInBounds_toArray, List.set_cons_zero, List.set_cons_succ, List.getElem_toArray, List.getElem_cons_zero, List.getElem_cons_succ]
      refine' wpAnyH_take (i := 10) (oi := _) (v := _) rfl (by kernel_rfl) (by kernel_rfl) (by kernel_rfl) (fun _ _ _ h => h) (Or.inr ⟨by rfl, rfl⟩) (by assumption) ?rezn3
      try simp only [Act.put, List.setIfInBounds_toArray, List.set_cons_zero, List.set_cons_succ, List.getElem_toArray, List.getElem_cons_zero, List.getElem_cons_succ]
      refine' wpAnyH_take (i := 11) (oi := _) (v := _) rfl (by kernel_rfl) (by kernel_rfl) (by kernel_rfl) (fun _ _ _ h => h) (Or.inl ⟨by rfl, ?hz8⟩) (by assumption) ?rezt8
      case hz8 => (intro w' hSw; (try dsimp only at hSw); go_simp; try with_reducible rfl)
      try simp only [Act.put, List.setIfInBounds_toArray, List.set_cons_zero, List.set_cons_succ, List.getElem_toArray, List.getElem_cons_zero, List.getElem_cons_succ]
      refine' wpAnyH_take (i := 12) (oi := _) (v := _) rfl (by kernel_rfl) (by kernel_rfl) (by kernel_rfl) (fun _ _ _ h => h) (Or.inl ⟨by rfl, ?hz9⟩) (by assumption) ?rezt9
      case hz9 => (intro w' hSw; (try dsimp only at hSw); go_simp; try with_reducible rfl)
      try simp only [Act.put, List.setIfInBounds_toArray, List.set_cons_zero, List.set_cons_succ, List.getElem_toArray, List.getElem_cons_zero, List.getElem_cons_succ]
      refine' wpAnyH_take (i := 13) (oi := _) (v := _) rfl (by kernel_rfl) (by kernel_rfl) (by kernel_rfl) (fun _ _ _ h => h) (Or.inr ⟨by rfl, rfl⟩) (by assumption) ?rezn4
      try simp only [Act.put, List.setIfInBounds_toArray, List.set_cons_zero, List.set_cons_succ, List.getElem_toArray, List.getElem_cons_zero, List.getElem_cons_succ]
      refine' wpAnyH_take (i := 14) (oi := _) (v := _) rfl (by kernel_rfl) (by kernel_rfl) (by kernel_rfl) (fun _ _ _ h => h) (Or.inr ⟨by rfl, rfl⟩) (by assumption) ?rezn5
      try simp only [Act.put, List.setIfInBounds_toArray, List.set_cons_zero, List.set_cons_succ, List.getElem_toArray, List.getElem_cons_zero, List.getElem_cons_succ]
      refine' wpAnyH_take (i := 15) (oi := _) (v := _) rfl (by kernel_rfl) (by kernel_rfl) (by kernel_rfl) (fun _ _ _ h => h) (Or.inr ⟨by rfl, rfl⟩) (by assumption) ?rezn6
      try simp only [Act.put, List.setIfInBounds_toArray, List.set_cons_zero, List.set_cons_succ, List.getElem_toArray, List.getElem_cons_zero, List.getElem_cons_succ]
      refine' wpAnyH_take (i := 16) (oi := _) (v := _) rfl (by kernel_rfl) (by kernel_rfl) (by kernel_rfl) (fun _ _ _ h => h) (Or.inl ⟨by rfl, ?hz10⟩) (by assumption) ?rezt10
      case hz10 => (intro w' hSw; (try dsimp only at hSw); go_simp; try with_reducible rfl)
      try simp only [Act.put, List.setIfInBounds_toArray, List.set_cons_zero, List.set_cons_succ, List.getElem_toArray, List.getElem_cons_zero, List.getElem_cons_succ]
      refine wpAnyH_done (by kernel_rfl) ?_ _
      go_wp2_with fail
      rw [HR.out, HF.out]
      exact ⟨rfl, hB0.trans (hHeld.mono hs0)⟩
    have q1 : (n.right != 0) = true := by simp [hr0]
    have q2 : (true != true) = false := rfl
    by_cases hr1 : n.right < 0
    · have HF := Lib.hid (show decide (mayN n) = false from decide_eq_false (fun h => by have := h.1.2.1 HC.out; unfold isP at this; omega))
      go_enter Try.func89, Try.ntmps89
      go_upto_region 1 with fail
      rw [← HW.out]
      clear HW
      go_upto_region 3 with fail
      clear m0
      refine wp_region_held_drew (S := (fun W => Below W0.heap.size W0 W)) (by kernel_rfl) ?_ (fun hHeld => ?_)
      · exact (Below.refl _ W0).drew
      refine' wpAnyH_take (i := 0) (oi := _) (v := _) rfl (by kernel_rfl) (by kernel_rfl) (by kernel_rfl) (fun _ _ _ h => h) (Or.inl ⟨by rfl, ?hz11⟩) (by assumption) ?rezt11
      case hz11 => (intro w' hSw; (try dsimp only at hSw); go_simp; try with_reducible rfl)
      try simp only [Act.put, List.setIfInBounds_toArray, List.set_cons_zero, List.set_cons_succ, List.getElem_toArray, List.getElem_cons_zero, List.getElem_cons_succ]
      refine' wpAnyH_take (i := 1) (oi := _) (v := _) rfl (by kernel_rfl) (by kernel_rfl) (by kernel_rfl) (fun _ _ _ h => h) (Or.inl ⟨by rfl, ?hz12⟩) (by assumption) ?rezt12
      case hz12 => (intro w' hSw; (try dsimp only at hSw); go_simp; try with_reducible rfl)
      try simp only [Act.put, List.setIfInBounds_toArray, List.set_cons_zero, List.set_cons_succ, List.getElem_toArray, List.getElem_cons_zero, List.getElem_cons_succ]
      refine' wpAnyH_take (i := 3) (oi := _) (v := _) rfl (by kernel_rfl) (by kernel_rfl) (by kernel_rfl) (fun _ _ _ h => h) (Or.inl ⟨by rfl, ?hz13⟩) (by assumption) ?rezt13
      case hz13 => (intro w' hSw; (try dsimp only at hSw); go_simp; try with_reducible rfl)
      try simp only [Act.put, List.setIfInBounds_toArray, List.set_cons_zero, List.set_cons_succ, List.getElem_toArray, List.getElem_cons_zero, List.getElem_cons_succ]
      refine' wpAnyH_take (i := 4) (oi := _) (v := _) rfl (by kernel_rfl) (by kernel_rfl) (by kernel_rfl) (fun _ _ _ h => h) (Or.inl ⟨by rfl, ?hz14⟩) (by assumption) ?rezt14
      case hz14 => (intro w' hSw; (try dsimp only at hSw); go_simp; try with_reducible rfl)
      try simp only [Act.put, List.setIfInBounds_toArray, List.set_cons_zero, List.set_cons_succ, List.getElem_toArray, List.getElem_cons_zero, List.getElem_cons_succ]
      refine' wpAnyH_take (i := 5) (oi := _) (v := _) rfl (by kernel_rfl) (by kernel_rfl) (by kernel_rfl) (fun _ _ _ h => h) (Or.inl ⟨by rfl, ?hz15⟩) (by assumption) ?rezt15
      case hz15 => (intro w' hSw; (try dsimp only at hSw); go_simp; try with_reducible rfl)
      try simp only [Act.put, List.setIfInBounds_toArray, List.set_cons_zero, List.set_cons_succ, List.getElem_toArray, List.getElem_cons_zero, List.getElem_cons_succ]
      refine wpAnyH_ready (rs := [2]) (by kernel_rfl) (by simp) ?_
      refine AllReadyH.cons (o := _) rfl (fun K hK => ?_) AllReadyH.nil
      go_simp
      have hbd : Below W0.heap.size W0 W0.drew := (Below.refl _ W0).drew
      go_at_call 108
      refine (inner_any _ n.kind).mono ?_
      rintro e w1 ⟨rfl, rfl⟩
      rw [HD.out]
      refine hK.out _ _ ?_ (fun hHeld => ?_)
      · exact hbd
      clear hK K
      try simp only [Act.put, List.setIfInBounds_toArray, List.set_cons_zero, List.set_cons_succ, List.getElem_toArray, List.getElem_cons_zero, List.getElem_cons_succ]
      refine' wpAnyH_take (i := 6) (oi := _) (v := _) rfl (by kernel_rfl) (by kernel_rfl) (by kernel_rfl) (fun _ _ _ h => h) (Or.inl ⟨by rfl, ?hz16⟩) (by assumption) ?rezt16
      case hz16 => (intro w' hSw; (try dsimp only at hSw); go_simp; try with_reducible rfl)
      try simp only [Act.put, List.setIfInBounds_toArray, List.set_cons_zero, List.set_cons_succ, List.getElem_toArray, List.getElem_cons_zero, List.getElem_cons_succ]
      refine' wpAnyH_take (i := 7) (oi := _) (v := _) rfl (by kernel_rfl) (by kernel_rfl) (by kernel_rfl) (fun _ _ _ h => h) (Or.inl ⟨by rfl, ?hz17⟩) (by assumption) ?rezt17
      case hz17 => (intro w' hSw; (try dsimp only at hSw); go_simp; try with_reducible rfl)
      try simp only [Act.put, List.setIfInBounds_toArray, List.set_cons_zero, List.set_cons_succ, List.getElem_toArray, List.getElem_cons_zero, List.getElem_cons_succ]
      refine' wpAnyH_take (i := 8) (oi := _) (v := _) rfl (by kernel_rfl) (by kernel_rfl) (by kernel_rfl) (fun _ _ _ h => h) (Or.inl ⟨by rfl, ?hz18⟩) (by assumption) ?rezt18
      case hz18 => (intro w' hSw; (try dsimp only at hSw); go_simp; try with_reducible rfl)
      try simp only [Act.put, List.setIfInBounds_toArray, List.set_cons_zero, List.set_cons_succ, List.getElem_toArray, List.getElem_cons_zero, List.getElem_cons_succ]
      refine' wpAnyH_take (i := 9) (oi := _) (v := _) rfl (by kernel_rfl) (by kernel_rfl) (by kernel_rfl) (fun _ _ _ h => h) (Or.inl ⟨by rfl, ?hz19⟩) (by assumption) ?rezt19
      case hz19 => (intro w' hSw; (try dsimp only at hSw); go_simp; try with_reducible rfl)
      try simp only [Act.put, List.setIfInBounds_toArray, List.set_cons_zero, List.set_cons_succ, List.getElem_toArray, List.getElem_cons_zero, List.getElem_cons_succ]
      refine' wpAnyH_take (i := 10) (oi := _) (v := _) rfl (by kernel_rfl) (by kernel_rfl) (by kernel_rfl) (fun _ _ _ h => h) (Or.inl ⟨by rfl, ?hz20⟩) (by assumption) ?rezt20
      case hz20 => (intro w' hSw; (try dsimp only at hSw); go_simp; try with_reducible rfl)
      try simp only [Act.put, List.setIfInBounds_toArray, List.set_cons_zero, List.set_cons_succ, List.getElem_toArray, List.getElem_cons_zero, List.getElem_cons_succ]
      refine' wpAnyH_take (i := 11) (oi := _) (v := _) rfl (by kernel_rfl) (by kernel_rfl) (by kernel_rfl) (fun _ _ _ h => h) (Or.inl ⟨by rfl, ?hz21⟩) (by assumption) ?rezt21
      case hz21 => (intro w' hSw; (try dsimp only at hSw); go_simp; try with_reducible rfl)
      try simp only [Act.put, List.setIfInBounds_toArray, List.set_cons_zero, List.set_cons_succ, List.getElem_toArray, List.getElem_cons_zero, List.getElem_cons_succ]
      refine' wpAnyH_take (i := 12) (oi := _) (v := _) rfl (by kernel_rfl) (by kernel_rfl) (by kernel_rfl) (fun _ _ _ h => h) (Or.inl ⟨by rfl, ?hz22⟩) (by assumption) ?rezt22
      case hz22 => (intro w' hSw; (try dsimp only at hSw); go_simp; try with_reducible rfl)
      try simp only [Act.put, List.setIfInBounds_toArray, List.set_cons_zero, List.set_cons_succ, List.getElem_toArray, List.getElem_cons_zero, List.getElem_cons_succ]
      refine' wpAnyH_take (i := 13) (oi := _) (v := _) rfl (by kernel_rfl) (by kernel_rfl) (by kernel_rfl) (fun _ _ _ h => h) (Or.inr ⟨by rfl, rfl⟩) (by assumption) ?rezn7
      try simp only [Act.put, List.setIfInBounds_toArray, List.set_cons_zero, List.set_cons_succ, List.getElem_toArray, List.getElem_cons_zero, List.getElem_cons_succ]
      refine' wpAnyH_take (i := 14) (oi := _) (v := _) rfl (by kernel_rfl) (by kernel_rfl) (by kernel_rfl) (fun _ _ _ h => h) (Or.inr ⟨by rfl, rfl⟩) (by assumption) ?rezn8
      try simp only [Act.put, List.setIfInBounds_toArray, List.set_cons_zero, List.set_cons_succ, List.getElem_toArray, List.getElem_cons_zero, List.getElem_cons_succ]
      refine' wpAnyH_take (i := 15) (oi := _) (v := _) rfl (by kernel_rfl) (by kernel_rfl) (by kernel_rfl) (fun _ _ _ h => h) (Or.inr ⟨by rfl, rfl⟩) (by assumption) ?rezn9
      try simp only [Act.put, List.setIfInBounds_toArray, List.set_cons_zero, List.set_cons_succ, List.getElem_toArray, List.getElem_cons_zero, List.getElem_cons_succ]
      refine' wpAnyH_take (i := 16) (oi := _) (v := _) rfl (by kernel_rfl) (by kernel_rfl) (by kernel_rfl) (fun _ _ _ h => h) (Or.inl ⟨by rfl, ?hz23⟩) (by assumption) ?rezt23
      case hz23 => (intro w' hSw; (try dsimp only at hSw); go_simp; try with_reducible rfl)
      try simp only [Act.put, List.setIfInBounds_toArray, List.set_cons_zero, List.set_cons_succ, List.getElem_toArray, List.getElem_cons_zero, List.getElem_cons_succ]
      refine wpAnyH_done (by kernel_rfl) ?_ _
      go_wp2_with fail
      rw [HR.out, HF.out]
      exact ⟨rfl, hB0.trans (hHeld.mono hs0)⟩
    by_cases hr2 : 1048576 < n.right
    · have HF := Lib.hid (show decide (mayN n) = false from decide_eq_false (fun h => by have := h.1.2.1 HC.out; unfold isP at this; omega))
      go_enter Try.func89, Try.ntmps89
      go_upto_region 1 with fail
      rw [← HW.out]
      clear HW
      go_upto_region 3 with fail
      clear m0
      refine wp_region_held_drew (S := (fun W => Below W0.heap.size W0 W)) (by kernel_rfl) ?_ (fun hHeld => ?_)
      · exact (Below.refl _ W0).drew
      refine' wpAnyH_take (i := 0) (oi := _) (v := _) rfl (by kernel_rfl) (by kernel_rfl) (by kernel_rfl) (fun _ _ _ h => h) (Or.inl ⟨by rfl, ?hz24⟩) (by assumption) ?rezt24
      case hz24 => (intro w' hSw; (try dsimp only at hSw); go_simp; try with_reducible rfl)
      try simp only [Act.put, List.setIfInBounds_toArray, List.set_cons_zero, List.set_cons_succ, List.getElem_toArray, List.getElem_cons_zero, List.getElem_cons_succ]
      refine' wpAnyH_take (i := 1) (oi := _) (v := _) rfl (by kernel_rfl) (by kernel_rfl) (by kernel_rfl) (fun _ _ _ h => h) (Or.inl ⟨by rfl, ?hz25⟩) (by assumption) ?rezt25
      case hz25 => (intro w' hSw; (try dsimp only at hSw); go_simp; try with_reducible rfl)
      try simp only [Act.put, List.setIfInBounds_toArray, List.set_cons_zero, List.set_cons_succ, List.getElem_toArray, List.getElem_cons_zero, List.getElem_cons_succ]
      refine' wpAnyH_take (i := 3) (oi := _) (v := _) rfl (by kernel_rfl) (by kernel_rfl) (by kernel_rfl) (fun _ _ _ h => h) (Or.inl ⟨by rfl, ?hz26⟩) (by assumption) ?rezt26
      case hz26 => (intro w' hSw; (try dsimp only at hSw); go_simp; try with_reducible rfl)
      try simp only [Act.put, List.setIfInBounds_toArray, List.set_cons_zero, List.set_cons_succ, List.getElem_toArray, List.getElem_cons_zero, List.getElem_cons_succ]
      refine' wpAnyH_take (i := 4) (oi := _) (v := _) rfl (by kernel_rfl) (by kernel_rfl) (by kernel_rfl) (fun _ _ _ h => h) (Or.inl ⟨by rfl, ?hz27⟩) (by assumption) ?rezt27
      case hz27 => (intro w' hSw; (try dsimp only at hSw); go_simp; try with_reducible rfl)
      try simp only [Act.put, List.setIfInBounds_toArray, List.set_cons_zero, List.set_cons_succ, List.getElem_toArray, List.getElem_cons_zero, List.getElem_cons_succ]
      refine' wpAnyH_take (i := 5) (oi := _) (v := _) rfl (by kernel_rfl) (by kernel_rfl) (by kernel_rfl) (fun _ _ _ h => h) (Or.inl ⟨by rfl, ?hz28⟩) (by assumption) ?rezt28
      case hz28 => (intro w' hSw; (try dsimp only at hSw); go_simp; try with_reducible rfl)
      try simp only [Act.put, List.setIfInBounds_toArray, List.set_cons_zero, List.set_cons_succ, List.getElem_toArray, List.getElem_cons_zero, List.getElem_cons_succ]
      refine wpAnyH_ready (rs := [2]) (by kernel_rfl) (by simp) ?_
      refine AllReadyH.cons (o := _) rfl (fun K hK => ?_) AllReadyH.nil
      go_simp
      have hbd : Below W0.heap.size W0 W0.drew := (Below.refl _ W0).drew
      go_at_call 108
      refine (inner_any _ n.kind).mono ?_
      rintro e w1 ⟨rfl, rfl⟩
      rw [HD.out]
      refine hK.out _ _ ?_ (fun hHeld => ?_)
      · exact hbd
      clear hK K
      try simp only [Act.put, List.setIfInBounds_toArray, List.set_cons_zero, List.set_cons_succ, List.getElem_toArray, List.getElem_cons_zero, List.getElem_cons_succ]
      refine' wpAnyH_take (i := 6) (oi := _) (v := _) rfl (by kernel_rfl) (by kernel_rfl) (by kernel_rfl) (fun _ _ _ h => h) (Or.inl ⟨by rfl, ?hz29⟩) (by assumption) ?rezt29
      case hz29 => (intro w' hSw; (try dsimp only at hSw); go_simp; try with_reducible rfl)
      try simp only [Act.put, List.setIfInBounds_toArray, List.set_cons_zero, List.set_cons_succ, List.getElem_toArray, List.getElem_cons_zero, List.getElem_cons_succ]
      refine' wpAnyH_take (i := 7) (oi := _) (v := _) rfl (by kernel_rfl) (by kernel_rfl) (by kernel_rfl) (fun _ _ _ h => h) (Or.inl ⟨by rfl, ?hz30⟩) (by assumption) ?rezt30
      case hz30 => (intro w' hSw; (try dsimp only at hSw); go_simp; try with_reducible rfl)
      try simp only [Act.put, List.setIfInBounds_toArray, List.set_cons_zero, List.set_cons_succ, List.getElem_toArray, List.getElem_cons_zero, List.getElem_cons_succ]
      refine' wpAnyH_take (i := 8) (oi := _) (v := _) rfl (by kernel_rfl) (by kernel_rfl) (by kernel_rfl) (fun _ _ _ h => h) (Or.inl ⟨by rfl, ?hz31⟩) (by assumption) ?rezt31
      case hz31 => (intro w' hSw; (try dsimp only at hSw); go_simp; try with_reducible rfl)
      try simp only [Act.put, List.setIfInBounds_toArray, List.set_cons_zero, List.set_cons_succ, List.getElem_toArray, List.getElem_cons_zero, List.getElem_cons_succ]
      refine' wpAnyH_take (i := 9) (oi := _) (v := _) rfl (by kernel_rfl) (by kernel_rfl) (by kernel_rfl) (fun _ _ _ h => h) (Or.inl ⟨by rfl, ?hz32⟩) (by assumption) ?rezt32
      case hz32 => (intro w' hSw; (try dsimp only at hSw); go_simp; try with_reducible rfl)
      try simp only [Act.put, List.setIfInBounds_toArray, List.set_cons_zero, List.set_cons_succ, List.getElem_toArray, List.getElem_cons_zero, List.getElem_cons_succ]
      refine' wpAnyH_take (i := 10) (oi := _) (v := _) rfl (by kernel_rfl) (by kernel_rfl) (by kernel_rfl) (fun _ _ _ h => h) (Or.inl ⟨by rfl, ?hz33⟩) (by assumption) ?rezt33
      case hz33 => (intro w' hSw; (try dsimp only at hSw); go_simp; try with_reducible rfl)
      try simp only [Act.put, List.setIfInBounds_toArray, List.set_cons_zero, List.set_cons_succ, List.getElem_toArray, List.getElem_cons_zero, List.getElem_cons_succ]
      refine' wpAnyH_take (i := 11) (oi := _) (v := _) rfl (by kernel_rfl) (by kernel_rfl) (by kernel_rfl) (fun _ _ _ h => h) (Or.inl ⟨by rfl, ?hz34⟩) (by assumption) ?rezt34
      case hz34 => (intro w' hSw; (try dsimp only at hSw); go_simp; try with_reducible rfl)
      try simp only [Act.put, List.setIfInBounds_toArray, List.set_cons_zero, List.set_cons_succ, List.getElem_toArray, List.getElem_cons_zero, List.getElem_cons_succ]
      refine' wpAnyH_take (i := 12) (oi := _) (v := _) rfl (by kernel_rfl) (by kernel_rfl) (by kernel_rfl) (fun _ _ _ h => h) (Or.inl ⟨by rfl, ?hz35⟩) (by assumption) ?rezt35
      case hz35 => (intro w' hSw; (try dsimp only at hSw); go_simp; try with_reducible rfl)
      try simp only [Act.put, List.setIfInBounds_toArray, List.set_cons_zero, List.set_cons_succ, List.getElem_toArray, List.getElem_cons_zero, List.getElem_cons_succ]
      refine' wpAnyH_take (i := 13) (oi := _) (v := _) rfl (by kernel_rfl) (by kernel_rfl) (by kernel_rfl) (fun _ _ _ h => h) (Or.inl ⟨by rfl, ?hz36⟩) (by assumption) ?rezt36
      case hz36 => (intro w' hSw; (try dsimp only at hSw); go_simp; try with_reducible rfl)
      try simp only [Act.put, List.setIfInBounds_toArray, List.set_cons_zero, List.set_cons_succ, List.getElem_toArray, List.getElem_cons_zero, List.getElem_cons_succ]
      refine' wpAnyH_take (i := 14) (oi := _) (v := _) rfl (by kernel_rfl) (by kernel_rfl) (by kernel_rfl) (fun _ _ _ h => h) (Or.inl ⟨by rfl, ?hz37⟩) (by assumption) ?rezt37
      case hz37 => (intro w' hSw; (try dsimp only at hSw); go_simp; try with_reducible rfl)
      try simp only [Act.put, List.setIfInBounds_toArray, List.set_cons_zero, List.set_cons_succ, List.getElem_toArray, List.getElem_cons_zero, List.getElem_cons_succ]
      refine' wpAnyH_take (i := 15) (oi := _) (v := _) rfl (by kernel_rfl) (by kernel_rfl) (by kernel_rfl) (fun _ _ _ h => h) (Or.inl ⟨by rfl, ?hz38⟩) (by assumption) ?rezt38
      case hz38 => (intro w' hSw; (try dsimp only at hSw); go_simp; try with_reducible rfl)
      try simp only [Act.put, List.setIfInBounds_toArray, List.set_cons_zero, List.set_cons_succ, List.getElem_toArray, List.getElem_cons_zero, List.getElem_cons_succ]
      refine' wpAnyH_take (i := 16) (oi := _) (v := _) rfl (by kernel_rfl) (by kernel_rfl) (by kernel_rfl) (fun _ _ _ h => h) (Or.inl ⟨by rfl, ?hz39⟩) (by assumption) ?rezt39
      case hz39 => (intro w' hSw; (try dsimp only at hSw); go_simp; try with_reducible rfl)
      try simp only [Act.put, List.setIfInBounds_toArray, List.set_cons_zero, List.set_cons_succ, List.getElem_toArray, List.getElem_cons_zero, List.getElem_cons_succ]
      refine wpAnyH_done (by kernel_rfl) ?_ _
      go_wp2_with fail
      rw [HR.out, HF.out]
      exact ⟨rfl, hB0.trans (hHeld.mono hs0)⟩
    have HRR := Lib.hid (show mayR n from ⟨HK.out, fun _ => by unfold isP; omega, fun h => absurd HC.out h⟩)
    go_enter Try.func89, Try.ntmps89
    go_upto_region 1 with fail
    rw [← HW.out]
    clear HW
    go_upto_region 3 with fail
    clear m0
    refine wp_region_held_drew (S := (fun W => Below W0.heap.size W0 W)) (by kernel_rfl) ?_ (fun hHeld => ?_)
    · exact (Below.refl _ W0).drew
    refine' wpAnyH_take (i := 0) (oi := _) (v := _) rfl (by kernel_rfl) (by kernel_rfl) (by kernel_rfl) (fun _ _ _ h => h) (Or.inl ⟨by rfl, ?hz40⟩) (by assumption) ?rezt40
    case hz40 => (intro w' hSw; (try dsimp only at hSw); go_simp; try with_reducible rfl)
    try simp only [Act.put, List.setIfInBounds_toArray, List.set_cons_zero, List.set_cons_succ, List.getElem_toArray, List.getElem_cons_zero, List.getElem_cons_succ]
    refine' wpAnyH_take (i := 1) (oi := _) (v := _) rfl (by kernel_rfl) (by kernel_rfl) (by kernel_rfl) (fun _ _ _ h => h) (Or.inl ⟨by rfl, ?hz41⟩) (by assumption) ?rezt41
    case hz41 => (intro w' hSw; (try dsimp only at hSw); go_simp; try with_reducible rfl)
    try simp only [Act.put, List.setIfInBounds_toArray, List.set_cons_zero, List.set_cons_succ, List.getElem_toArray, List.getElem_cons_zero, List.getElem_cons_succ]
    refine' wpAnyH_take (i := 3) (oi := _) (v := _) rfl (by kernel_rfl) (by kernel_rfl) (by kernel_rfl) (fun _ _ _ h => h) (Or.inl ⟨by rfl, ?hz42⟩) (by assumption) ?rezt42
    case hz42 => (intro w' hSw; (try dsimp only at hSw); go_simp; try with_reducible rfl)
    try simp only [Act.put, List.setIfInBounds_toArray, List.set_cons_zero, List.set_cons_succ, List.getElem_toArray, List.getElem_cons_zero, List.getElem_cons_succ]
    refine' wpAnyH_take (i := 4) (oi := _) (v := _) rfl (by kernel_rfl) (by kernel_rfl) (by kernel_rfl) (fun _ _ _ h => h) (Or.inl ⟨by rfl, ?hz43⟩) (by assumption) ?rezt43
    case hz43 => (intro w' hSw; (try dsimp only at hSw); go_simp; try with_reducible rfl)
    try simp only [Act.put, List.setIfInBounds_toArray, List.set_cons_zero, List.set_cons_succ, List.getElem_toArray, List.getElem_cons_zero, List.getElem_cons_succ]
    refine' wpAnyH_take (i := 5) (oi := _) (v := _) rfl (by kernel_rfl) (by kernel_rfl) (by kernel_rfl) (fun _ _ _ h => h) (Or.inl ⟨by rfl, ?hz44⟩) (by assumption) ?rezt44
    case hz44 => (intro w' hSw; (try dsimp only at hSw); go_simp; try with_reducible rfl)
    try simp only [Act.put, List.setIfInBounds_toArray, List.set_cons_zero, List.set_cons_succ, List.getElem_toArray, List.getElem_cons_zero, List.getElem_cons_succ]
    refine wpAnyH_ready (rs := [2]) (by kernel_rfl) (by simp) ?_
    refine AllReadyH.cons (o := _) rfl (fun K hK => ?_) AllReadyH.nil
    go_simp
    have hbd : Below W0.heap.size W0 W0.drew := (Below.refl _ W0).drew
    go_at_call 108
    refine (inner_any _ n.kind).mono ?_
    rintro e w1 ⟨rfl, rfl⟩
    rw [HD.out]
    refine hK.out _ _ ?_ (fun hHeld => ?_)
    · exact hbd
    clear hK K
    try simp only [Act.put, List.setIfInBounds_toArray, List.set_cons_zero, List.set_cons_succ, List.getElem_toArray, List.getElem_cons_zero, List.getElem_cons_succ]
    refine' wpAnyH_take (i := 6) (oi := _) (v := _) rfl (by kernel_rfl) (by kernel_rfl) (by kernel_rfl) (fun _ _ _ h => h) (Or.inl ⟨by rfl, ?hz45⟩) (by assumption) ?rezt45
    case hz45 => (intro w' hSw; (try dsimp only at hSw); go_simp; try with_reducible rfl)
    try simp only [Act.put, List.setIfInBounds_toArray, List.set_cons_zero, List.set_cons_succ, List.getElem_toArray, List.getElem_cons_zero, List.getElem_cons_succ]
    refine' wpAnyH_take (i := 7) (oi := _) (v := _) rfl (by kernel_rfl) (by kernel_rfl) (by kernel_rfl) (fun _ _ _ h => h) (Or.inl ⟨by rfl, ?hz46⟩) (by assumption) ?rezt46
    case hz46 => (intro w' hSw; (try dsimp only at hSw); go_simp; try with_reducible rfl)
    try simp only [Act.put, List.setIfInBounds_toArray, List.set_cons_zero, List.set_cons_succ, List.getElem_toArray, List.getElem_cons_zero, List.getElem_cons_succ]
    refine' wpAnyH_take (i := 8) (oi := _) (v := _) rfl (by kernel_rfl) (by kernel_rfl) (by kernel_rfl) (fun _ _ _ h => h) (Or.inl ⟨by rfl, ?hz47⟩) (by assumption) ?rezt47
    case hz47 => (intro w' hSw; (try dsimp only at hSw); go_simp; try with_reducible rfl)
    try simp only [Act.put, List.setIfInBounds_toArray, List.set_cons_zero, List.set_cons_succ, List.getElem_toArray, List.getElem_cons_zero, List.getElem_cons_succ]
    refine' wpAnyH_take (i := 9) (oi := _) (v := _) rfl (by kernel_rfl) (by kernel_rfl) (by kernel_rfl) (fun _ _ _ h => h) (Or.inl ⟨by rfl, ?hz48⟩) (by assumption) ?rezt48
    case hz48 => (intro w' hSw; (try dsimp only at hSw); go_simp; try with_reducible rfl)
    try simp only [Act.put, List.setIfInBounds_toArray, List.set_cons_zero, List.set_cons_succ, List.getElem_toArray, List.getElem_cons_zero, List.getElem_cons_succ]
    refine' wpAnyH_take (i := 10) (oi := _) (v := _) rfl (by kernel_rfl) (by kernel_rfl) (by kernel_rfl) (fun _ _ _ h => h) (Or.inl ⟨by rfl, ?hz49⟩) (by assumption) ?rezt49
    case hz49 => (intro w' hSw; (try dsimp only at hSw); go_simp; try with_reducible rfl)
    try simp only [Act.put, List.setIfInBounds_toArray, List.set_cons_zero, List.set_cons_succ, List.getElem_toArray, List.getElem_cons_zero, List.getElem_cons_succ]
    refine' wpAnyH_take (i := 11) (oi := _) (v := _) rfl (by kernel_rfl) (by kernel_rfl) (by kernel_rfl) (fun _ _ _ h => h) (Or.inl ⟨by rfl, ?hz50⟩) (by assumption) ?rezt50
    case hz50 => (intro w' hSw; (try dsimp only at hSw); go_simp; try with_reducible rfl)
    try simp only [Act.put, List.setIfInBounds_toArray, List.set_cons_zero, List.set_cons_succ, List.getElem_toArray, List.getElem_cons_zero, List.getElem_cons_succ]
    refine' wpAnyH_take (i := 12) (oi := _) (v := _) rfl (by kernel_rfl) (by kernel_rfl) (by kernel_rfl) (fun _ _ _ h => h) (Or.inl ⟨by rfl, ?hz51⟩) (by assumption) ?rezt51
    case hz51 => (intro w' hSw; (try dsimp only at hSw); go_simp; try with_reducible rfl)
    try simp only [Act.put, List.setIfInBounds_toArray, List.set_cons_zero, List.set_cons_succ, List.getElem_toArray, List.getElem_cons_zero, List.getElem_cons_succ]
    refine' wpAnyH_take (i := 13) (oi := _) (v := _) rfl (by kernel_rfl) (by kernel_rfl) (by kernel_rfl) (fun _ _ _ h => h) (Or.inl ⟨by rfl, ?hz52⟩) (by assumption) ?rezt52
    case hz52 => (intro w' hSw; (try dsimp only at hSw); go_simp; try with_reducible rfl)
    try simp only [Act.put, List.setIfInBounds_toArray, List.set_cons_zero, List.set_cons_succ, List.getElem_toArray, List.getElem_cons_zero, List.getElem_cons_succ]
    refine' wpAnyH_take (i := 14) (oi := _) (v := _) rfl (by kernel_rfl) (by kernel_rfl) (by kernel_rfl) (fun _ _ _ h => h) (Or.inl ⟨by rfl, ?hz53⟩) (by assumption) ?rezt53
    case hz53 => (intro w' hSw; (try dsimp only at hSw); go_simp; try with_reducible rfl)
    try simp only [Act.put, List.setIfInBounds_toArray, List.set_cons_zero, List.set_cons_succ, List.getElem_toArray, List.getElem_cons_zero, List.getElem_cons_succ]
    refine' wpAnyH_take (i := 15) (oi := _) (v := _) rfl (by kernel_rfl) (by kernel_rfl) (by kernel_rfl) (fun _ _ _ h => h) (Or.inl ⟨by rfl, ?hz54⟩) (by assumption) ?rezt54
    case hz54 => (intro w' hSw; (try dsimp only at hSw); go_simp; try with_reducible rfl)
    try simp only [Act.put, List.setIfInBounds_toArray, List.set_cons_zero, List.set_cons_succ, List.getElem_toArray, List.getElem_cons_zero, List.getElem_cons_succ]
    refine' wpAnyH_take (i := 16) (oi := _) (v := _) rfl (by kernel_rfl) (by kernel_rfl) (by kernel_rfl) (fun _ _ _ h => h) (Or.inl ⟨by rfl, ?hz55⟩) (by assumption) ?rezt55
    case hz55 => (intro w' hSw; (try dsimp only at hSw); go_simp; try with_reducible rfl)
    try simp only [Act.put, List.setIfInBounds_toArray, List.set_cons_zero, List.set_cons_succ, List.getElem_toArray, List.getElem_cons_zero, List.getElem_cons_succ]
    refine wpAnyH_done (by kernel_rfl) ?_ _
    have hb1 : Below W0.heap.size W0 W0.drew := hHeld
    have HAT1 := Lib.hid (HAT.out.keep hb1)
    have m1 := HAT1.out.all.2.1
    have hmf : ∀ (fn : Fn) (first cap : Array Value) (w : World), (Instr.makeFunc fn first cap).run Try.prog w = .ok (.func fn first cap) w := fun _ _ _ _ => rfl
    have HCF := Lib.hid (containsF_any W0.drew A n.cs.length c n.cs 109 (.pointer (some ⟨w.heap.size, 0, none⟩)) (fun c => !decide (goodK n.kind c)) rfl hn (HA0.out.keep hb1) (right1_any W0.drew n A c w.heap.size HAT1.out HOK.out.2.2 HL.out) (fun _ _ => by rfl))
    clear F0 F2
    go_wp2_with fail
    refine HCF.out.mono ?_
    rintro e w2 ⟨rfl, hb2⟩
    have hbf : Below w.heap.size w w2 := hB0.trans ((hb1.trans (hb2.mono (Nat.le_refl _))).mono hs0)
    have HV := Lib.hid (show (!(n.cs.any fun c => !decide (goodK n.kind c))) = decide (mayN n) by
        rw [Bool.eq_iff_iff, decide_eq_true_iff]
        simp only [Bool.not_eq_true', List.any_eq_false, Bool.not_eq_true, Bool.not_eq_false', decide_eq_true_eq]
        exact ⟨fun h => ⟨HRR.out, fun c hc => by simpa using h c hc⟩, fun h c hc => by simpa using h.2 c hc⟩)
    obtain ⟨bv, hbv⟩ : ∃ b, (n.cs.any fun c => !decide (goodK n.kind c)) = b := ⟨_, rfl⟩
    rw [hbv] at HV
    rw [hbv]
    clear hbv m1 hmf HCF
    go_wp2_with fail
    rw [HR.out, ← HV.out]
    exact ⟨rfl, hbf⟩
  · have HD := Lib.hid (decide_eq_false hc)
    have HC := Lib.hid hc
    clear hc
    by_cases hr0 : n.right = 0
    · have q1 : (n.right != 0) = false := by simp [hr0]
      have q2 : (false != false) = false := rfl
      have HRR := Lib.hid (show mayR n from ⟨HK.out, fun h => absurd h HC.out, fun _ => hr0⟩)
      have hr1 : ¬ n.right < 0 := by omega
      have hr2 : ¬ 1048576 < n.right := by omega
      clear hr0
      go_enter Try.func89, Try.ntmps89
      go_upto_region 1 with fail
      rw [← HW.out]
      clear HW
      go_upto_region 3 with fail
      clear m0
      refine wp_region_held_drew (S := (fun W => Below W0.heap.size W0 W)) (by kernel_rfl) ?_ (fun hHeld => ?_)
      · exact (Below.refl _ W0).drew
      refine' wpAnyH_take (i := 0) (oi := _) (v := _) rfl (by kernel_rfl) (by kernel_rfl) (by kernel_rfl) (fun _ _ _ h => h) (Or.inl ⟨by rfl, ?hz56⟩) (by assumption) ?rezt56
      case hz56 => (intro w' hSw; (try dsimp only at hSw); go_simp; try with_reducible rfl)
      try simp only [Act.put, List.setIfInBounds_toArray, List.set_cons_zero, List.set_cons_succ, List.getElem_toArray, List.getElem_cons_zero, List.getElem_cons_succ]
      refine' wpAnyH_take (i := 1) (oi := _) (v := _) rfl (by kernel_rfl) (by kernel_rfl) (by kernel_rfl) (fun _ _ _ h => h) (Or.inl ⟨by rfl, ?hz57⟩) (by assumption) ?rezt57
      case hz57 => (intro w' hSw; (try dsimp only at hSw); go_simp; try with_reducible rfl)
      try simp only [Act.put, List.setIfInBounds_toArray, List.set_cons_zero, List.set_cons_succ, List.getElem_toArray, List.getElem_cons_zero, List.getElem_cons_succ]
      refine' wpAnyH_take (i := 3) (oi := _) (v := _) rfl (by kernel_rfl) (by kernel_rfl) (by kernel_rfl) (fun _ _ _ h => h) (Or.inl ⟨by rfl, ?hz58⟩) (by assumption) ?rezt58
      case hz58 => (intro w' hSw; (try dsimp only at hSw); go_simp; try with_reducible rfl)
      try simp only [Act.put, List.setIfInBounds_toArray, List.set_cons_zero, List.set_cons_succ, List.getElem_toArray, List.getElem_cons_zero, List.getElem_cons_succ]
      refine' wpAnyH_take (i := 4) (oi := _) (v := _) rfl (by kernel_rfl) (by kernel_rfl) (by kernel_rfl) (fun _ _ _ h => h) (Or.inl ⟨by rfl, ?hz59⟩) (by assumption) ?rezt59
      case hz59 => (intro w' hSw; (try dsimp only at hSw); go_simp; try with_reducible rfl)
      try simp only [Act.put, List.setIfInBounds_toArray, List.set_cons_zero, List.set_cons_succ, List.getElem_toArray, List.getElem_cons_zero, List.getElem_cons_succ]
      refine' wpAnyH_take (i := 5) (oi := _) (v := _) rfl (by kernel_rfl) (by kernel_rfl) (by kernel_rfl) (fun _ _ _ h => h) (Or.inl ⟨by rfl, ?hz60⟩) (by assumption) ?rezt60
      case hz60 => (intro w' hSw; (try dsimp only at hSw); go_simp; try with_reducible rfl)
      try simp only [Act.put, List.setIfInBounds_toArray, List.set_cons_zero, List.set_cons_succ, List.getElem_toArray, List.getElem_cons_zero, List.getElem_cons_succ]
      refine wpAnyH_ready (rs := [2]) (by kernel_rfl) (by simp) ?_
      refine AllReadyH.cons (o := _) rfl (fun K hK => ?_) AllReadyH.nil
      go_simp
      have hbd : Below W0.heap.size W0 W0.drew := (Below.refl _ W0).drew
      go_at_call 108
      refine (inner_any _ n.kind).mono ?_
      rintro e w1 ⟨rfl, rfl⟩
      rw [HD.out]
      refine hK.out _ _ ?_ (fun hHeld => ?_)
      · exact hbd
      clear hK K
      try simp only [Act.put, List.setIfInBounds_toArray, List.set_cons_zero, List.set_cons_succ, List.getElem_toArray, List.getElem_cons_zero, List.getElem_cons_succ]
      refine' wpAnyH_take (i := 6) (oi := _) (v := _) rfl (by kernel_rfl) (by kernel_rfl) (by kernel_rfl) (fun _ _ _ h => h) (Or.inl ⟨by rfl, ?hz61⟩) (by assumption) ?rezt61
      case hz61 => (intro w' hSw; (try dsimp only at hSw); go_simp; try with_reducible rfl)
      try simp only [Act.put, List.setIfInBounds_toArray, List.set_cons_zero, List.set_cons_succ, List.getElem_toArray, List.getElem_cons_zero, List.getElem_cons_succ]
      refine' wpAnyH_take (i := 7) (oi := _) (v := _) rfl (by kernel_rfl) (by kernel_rfl) (by kernel_rfl) (fun _ _ _ h => h) (Or.inl ⟨by rfl, ?hz62⟩) (by assumption) ?rezt62
      case hz62 => (intro w' hSw; (try dsimp only at hSw); go_simp; try with_reducible rfl)
      try simp only [Act.put, List.setIfInBounds_toArray, List.set_cons_zero, List.set_cons_succ, List.getElem_toArray, List.getElem_cons_zero, List.getElem_cons_succ]
      refine' wpAnyH_take (i := 8) (oi := _) (v := _) rfl (by kernel_rfl) (by kernel_rfl) (by kernel_rfl) (fun _ _ _ h => h) (Or.inl ⟨by rfl, ?hz63⟩) (by assumption) ?rezt63
      case hz63 => (intro w' hSw; (try dsimp only at hSw); go_simp; try with_reducible rfl)
      try simp only [Act.put, List.setIfInBounds_toArray, List.set_cons_zero, List.set_cons_succ, List.getElem_toArray, List.getElem_cons_zero, List.getElem_cons_succ]
      refine' wpAnyH_take (i := 9) (oi := _) (v := _) rfl (by kernel_rfl) (by kernel_rfl) (by kernel_rfl) (fun _ _ _ h => h) (Or.inl ⟨by rfl, ?hz64⟩) (by assumption) ?rezt64
      case hz64 => (intro w' hSw; (try dsimp only at hSw); go_simp; try with_reducible rfl)
      try simp only [Act.put, List.setIfInBounds_toArray, List.set_cons_zero, List.set_cons_succ, List.getElem_toArray, List.getElem_cons_zero, List.getElem_cons_succ]
      refine' wpAnyH_take (i := 10) (oi := _) (v := _) rfl (by kernel_rfl) (by kernel_rfl) (by kernel_rfl) (fun _ _ _ h => h) (Or.inl ⟨by rfl, ?hz65⟩) (by assumption) ?rezt65
      case hz65 => (intro w' hSw; (try dsimp only at hSw); go_simp; try with_reducible rfl)
      try simp only [Act.put, List.setIfInBounds_toArray, List.set_cons_zero, List.set_cons_succ, List.getElem_toArray, List.getElem_cons_zero, List.getElem_cons_succ]
      refine' wpAnyH_take (i := 11) (oi := _) (v := _) rfl (by kernel_rfl) (by kernel_rfl) (by kernel_rfl) (fun _ _ _ h => h) (Or.inl ⟨by rfl, ?hz66⟩) (by assumption) ?rezt66
      case hz66 => (intro w' hSw; (try dsimp only at hSw); go_simp; try with_reducible rfl)
      try simp only [Act.put, List.setIfInBounds_toArray, List.set_cons_zero, List.set_cons_succ, List.getElem_toArray, List.getElem_cons_zero, List.getElem_cons_succ]
      refine' wpAnyH_take (i := 12) (oi := _) (v := _) rfl (by kernel_rfl) (by kernel_rfl) (by kernel_rfl) (fun _ _ _ h => h) (Or.inl ⟨by rfl, ?hz67⟩) (by assumption) ?rezt67
      case hz67 => (intro w' hSw; (try dsimp only at hSw); go_simp; try with_reducible rfl)
      try simp only [Act.put, List.setIfInBounds_toArray, List.set_cons_zero, List.set_cons_succ, List.getElem_toArray, List.getElem_cons_zero, List.getElem_cons_succ]
      refine' wpAnyH_take (i := 13) (oi := _) (v := _) rfl (by kernel_rfl) (by kernel_rfl) (by kernel_rfl) (fun _ _ _ h => h) (Or.inl ⟨by rfl, ?hz68⟩) (by assumption) ?rezt68
      case hz68 => (intro w' hSw; (try dsimp only at hSw); go_simp; try with_reducible rfl)
      try simp only [Act.put, List.setIfInBounds_toArray, List.set_cons_zero, List.set_cons_succ, List.getElem_toArray, List.getElem_cons_zero, List.getElem_cons_succ]
      refine' wpAnyH_take (i := 14) (oi := _) (v := _) rfl (by kernel_rfl) (by kernel_rfl) (by kernel_rfl) (fun _ _ _ h => h) (Or.inl ⟨by rfl, ?hz69⟩) (by assumption) ?rezt69
      case hz69 => (intro w' hSw; (try dsimp only at hSw); go_simp; try with_reducible rfl)
      try simp only [Act.put, List.setIfInBounds_toArray, List.set_cons_zero, List.set_cons_succ, List.getElem_toArray, List.getElem_cons_zero, List.getElem_cons_succ]
      refine' wpAnyH_take (i := 15) (oi := _) (v := _) rfl (by kernel_rfl) (by kernel_rfl) (by kernel_rfl) (fun _ _ _ h => h) (Or.inl ⟨by rfl, ?hz70⟩) (by assumption) ?rezt70
      case hz70 => (intro w' hSw; (try dsimp only at hSw); go_simp; try with_reducible rfl)
      try simp only [Act.put, List.setIfInBounds_toArray, List.set_cons_zero, List.set_cons_succ, List.getElem_toArray, List.getElem_cons_zero, List.getElem_cons_succ]
      refine' wpAnyH_take (i := 16) (oi := _) (v := _) rfl (by kernel_rfl) (by kernel_rfl) (by kernel_rfl) (fun _ _ _ h => h) (Or.inl ⟨by rfl, ?hz71⟩) (by assumption) ?rezt71
      case hz71 => (intro w' hSw; (try dsimp only at hSw); go_simp; try with_reducible rfl)
      try simp only [Act.put, List.setIfInBounds_toArray, List.set_cons_zero, List.set_cons_succ, List.getElem_toArray, List.getElem_cons_zero, List.getElem_cons_succ]
      refine wpAnyH_done (by kernel_rfl) ?_ _
      have hb1 : Below W0.heap.size W0 W0.drew := hHeld
      have HAT1 := Lib.hid (HAT.out.keep hb1)
      have m1 := HAT1.out.all.2.1
      have hmf : ∀ (fn : Fn) (first cap : Array Value) (w : World), (Instr.makeFunc fn first cap).run Try.prog w = .ok (.func fn first cap) w := fun _ _ _ _ => rfl
      have HCF := Lib.hid (containsF_any W0.drew A n.cs.length c n.cs 109 (.pointer (some ⟨w.heap.size, 0, none⟩)) (fun c => !decide (goodK n.kind c)) rfl hn (HA0.out.keep hb1) (right1_any W0.drew n A c w.heap.size HAT1.out HOK.out.2.2 HL.out) (fun _ _ => by rfl))
      clear F0 F2
      go_wp2_with fail
      refine HCF.out.mono ?_
      rintro e w2 ⟨rfl, hb2⟩
      have hbf : Below w.heap.size w w2 := hB0.trans ((hb1.trans (hb2.mono (Nat.le_refl _))).mono hs0)
      have HV := Lib.hid (show (!(n.cs.any fun c => !decide (goodK n.kind c))) = decide (mayN n) by
        rw [Bool.eq_iff_iff, decide_eq_true_iff]
        simp only [Bool.not_eq_true', List.any_eq_false, Bool.not_eq_true, Bool.not_eq_false', decide_eq_true_eq]
        exact ⟨fun h => ⟨HRR.out, fun c hc => by simpa using h c hc⟩, fun h c hc => by simpa using h.2 c hc⟩)
      obtain ⟨bv, hbv⟩ : ∃ b, (n.cs.any fun c => !decide (goodK n.kind c)) = b := ⟨_, rfl⟩
      rw [hbv] at HV
      rw [hbv]
      clear hbv m1 hmf HCF
      go_wp2_with fail
      rw [HR.out, ← HV.out]
      exact ⟨rfl, hbf⟩
    · have HF := Lib.hid (show decide (mayN n) = false from decide_eq_false (fun h => hr0 (h.1.2.2 HC.out)))
      have q1 : (n.right != 0) = true := by simp [hr0]
      have q2 : (false != true) = true := rfl
      go_enter Try.func89, Try.ntmps89
      go_upto_region 1 with fail
      rw [← HW.out]
      clear HW
      go_upto_region 3 with fail
      clear m0
      refine wp_region_held_drew (S := (fun W => Below W0.heap.size W0 W)) (by kernel_rfl) ?_ (fun hHeld => ?_)
      · exact (Below.refl _ W0).drew
      refine' wpAnyH_take (i := 0) (oi := _) (v := _) rfl (by kernel_rfl) (by kernel_rfl) (by kernel_rfl) (fun _ _ _ h => h) (Or.inl ⟨by rfl, ?hz72⟩) (by assumption) ?rezt72
      case hz72 => (intro w' hSw; (try dsimp only at hSw); go_simp; try with_reducible rfl)
      try simp only [Act.put, List.setIfInBounds_toArray, List.set_cons_zero, List.set_cons_succ, List.getElem_toArray, List.getElem_cons_zero, List.getElem_cons_succ]
      refine' wpAnyH_take (i := 1) (oi := _) (v := _) rfl (by kernel_rfl) (by kernel_rfl) (by kernel_rfl) (fun _ _ _ h => h) (Or.inl ⟨by rfl, ?hz73⟩) (by assumption) ?rezt73
      case hz73 => (intro w' hSw; (try dsimp only at hSw); go_simp; try with_reducible rfl)
      try simp only [Act.put, List.setIfInBounds_toArray, List.set_cons_zero, List.set_cons_succ, List.getElem_toArray, List.getElem_cons_zero, List.getElem_cons_succ]
      refine' wpAnyH_take (i := 3) (oi := _) (v := _) rfl (by kernel_rfl) (by kernel_rfl) (by kernel_rfl) (fun _ _ _ h => h) (Or.inl ⟨by rfl, ?hz74⟩) (by assumption) ?rezt74
      case hz74 => (intro w' hSw; (try dsimp only at hSw); go_simp; try with_reducible rfl)
      try simp only [Act.put, List.setIfInBounds_toArray, List.set_cons_zero, List.set_cons_succ, List.getElem_toArray, List.getElem_cons_zero, List.getElem_cons_succ]
      refine' wpAnyH_take (i := 4) (oi := _) (v := _) rfl (by kernel_rfl) (by kernel_rfl) (by kernel_rfl) (fun _ _ _ h => h) (Or.inl ⟨by rfl, ?hz75⟩) (by assumption) ?rezt75
      case hz75 => (intro w' hSw; (try dsimp only at hSw); go_simp; try with_reducible rfl)
      try simp only [Act.put, List.setIfInBounds_toArray, List.set_cons_zero, List.set_cons_succ, List.getElem_toArray, List.getElem_cons_zero, List.getElem_cons_succ]
      refine' wpAnyH_take (i := 5) (oi := _) (v := _) rfl (by kernel_rfl) (by kernel_rfl) (by kernel_rfl) (fun _ _ _ h => h) (Or.inl ⟨by rfl, ?hz76⟩) (by assumption) ?rezt76
      case hz76 => (intro w' hSw; (try dsimp only at hSw); go_simp; try with_reducible rfl)
      try simp only [Act.put, List.setIfInBounds_toArray, List.set_cons_zero, List.set_cons_succ, List.getElem_toArray, List.getElem_cons_zero, List.getElem_cons_succ]
      refine wpAnyH_ready (rs := [2]) (by kernel_rfl) (by simp) ?_
      refine AllReadyH.cons (o := _) rfl (fun K hK => ?_) AllReadyH.nil
      go_simp
      have hbd : Below W0.heap.size W0 W0.drew := (Below.refl _ W0).drew
      go_at_call 108
      refine (inner_any _ n.kind).mono ?_
      rintro e w1 ⟨rfl, rfl⟩
      rw [HD.out]
      refine hK.out _ _ ?_ (fun hHeld => ?_)
      · exact hbd
      clear hK K
      try simp only [Act.put, List.setIfInBounds_toArray, List.set_cons_zero, List.set_cons_succ, List.getElem_toArray, List.getElem_cons_zero, List.getElem_cons_succ]
      refine' wpAnyH_take (i := 6) (oi := _) (v := _) rfl (by kernel_rfl) (by kernel_rfl) (by kernel_rfl) (fun _ _ _ h => h) (Or.inl ⟨by rfl, ?hz77⟩) (by assumption) ?rezt77
      case hz77 => (intro w' hSw; (try dsimp only at hSw); go_simp; try with_reducible rfl)
      try simp only [Act.put, List.setIfInBounds_toArray, List.set_cons_zero, List.set_cons_succ, List.getElem_toArray, List.getElem_cons_zero, List.getElem_cons_succ]
      refine' wpAnyH_take (i := 7) (oi := _) (v := _) rfl (by kernel_rfl) (by kernel_rfl) (by kernel_rfl) (fun _ _ _ h => h) (Or.inl ⟨by rfl, ?hz78⟩) (by assumption) ?rezt78
      case hz78 => (intro w' hSw; (try dsimp only at hSw); go_simp; try with_reducible rfl)
      try simp only [Act.put, List.setIfInBounds_toArray, List.set_cons_zero, List.set_cons_succ, List.getElem_toArray, List.getElem_cons_zero, List.getElem_cons_succ]
      refine' wpAnyH_take (i := 8) (oi := _) (v := _) rfl (by kernel_rfl) (by kernel_rfl) (by kernel_rfl) (fun _ _ _ h => h) (Or.inr ⟨by rfl, rfl⟩) (by assumption) ?rezn10
      try simp only [Act.put, List.setIfInBounds_toArray, List.set_cons_zero, List.set_cons_succ, List.getElem_toArray, List.getElem_cons_zero, List.getElem_cons_succ]
      refine' wpAnyH_take (i := 9) (oi := _) (v := _) rfl (by kernel_rfl) (by kernel_rfl) (by kernel_rfl) (fun _ _ _ h => h) (Or.inr ⟨by rfl, rfl⟩) (by assumption) ?rezn11
      try simp only [Act.put, List.setIfInBounds_toArray, List.set_cons_zero, List.set_cons_succ, List.getElem_toArray, List.getElem_cons_zero, List.getElem_cons_succ]
      refine' wpAnyH_take (i := 10) (oi := _) (v := _) rfl (by kernel_rfl) (by kernel_rfl) (by kernel_rfl) (fun _ _ _ h => h) (Or.inr ⟨by rfl, rfl⟩) (by assumption) ?rezn12
      try simp only [Act.put, List.setIfInBounds_toArray, List.set_cons_zero, List.set_cons_succ, List.getElem_toArray, List.getElem_cons_zero, List.getElem_cons_succ]
      refine' wpAnyH_take (i := 11) (oi := _) (v := _) rfl (by kernel_rfl) (by kernel_rfl) (by kernel_rfl) (fun _ _ _ h => h) (Or.inl ⟨by rfl, ?hz79⟩) (by assumption) ?rezt79
      case hz79 => (intro w' hSw; (try dsimp only at hSw); go_simp; try with_reducible rfl)
      try simp only [Act.put, List.setIfInBounds_toArray, List.set_cons_zero, List.set_cons_succ, List.getElem_toArray, List.getElem_cons_zero, List.getElem_cons_succ]
      refine' wpAnyH_take (i := 12) (oi := _) (v := _) rfl (by kernel_rfl) (by kernel_rfl) (by kernel_rfl) (fun _ _ _ h => h) (Or.inl ⟨by rfl, ?hz80⟩) (by assumption) ?rezt80
      case hz80 => (intro w' hSw; (try dsimp only at hSw); go_simp; try with_reducible rfl)
      try simp only [Act.put, List.setIfInBounds_toArray, List.set_cons_zero, List.set_cons_succ, List.getElem_toArray, List.getElem_cons_zero, List.getElem_cons_succ]
      refine' wpAnyH_take (i := 13) (oi := _) (v := _) rfl (by kernel_rfl) (by kernel_rfl) (by kernel_rfl) (fun _ _ _ h => h) (Or.inr ⟨by rfl, rfl⟩) (by assumption) ?rezn13
      try simp only [Act.put, List.setIfInBounds_toArray, List.set_cons_zero, List.set_cons_succ, List.getElem_toArray, List.getElem_cons_zero, List.getElem_cons_succ]
      refine' wpAnyH_take (i := 14) (oi := _) (v := _) rfl (by kernel_rfl) (by kernel_rfl) (by kernel_rfl) (fun _ _ _ h => h) (Or.inr ⟨by rfl, rfl⟩) (by assumption) ?rezn14
      try simp only [Act.put, List.setIfInBounds_toArray, List.set_cons_zero, List.set_cons_succ, List.getElem_toArray, List.getElem_cons_zero, List.getElem_cons_succ]
      refine' wpAnyH_take (i := 15) (oi := _) (v := _) rfl (by kernel_rfl) (by kernel_rfl) (by kernel_rfl) (fun _ _ _ h => h) (Or.inr ⟨by rfl, rfl⟩) (by assumption) ?rezn15
      try simp only [Act.put, List.setIfInBounds_toArray, List.set_cons_zero, List.set_cons_succ, List.getElem_toArray, List.getElem_cons_zero, List.getElem_cons_succ]
      refine' wpAnyH_take (i := 16) (oi := _) (v := _) rfl (by kernel_rfl) (by kernel_rfl) (by kernel_rfl) (fun _ _ _ h => h) (Or.inl ⟨by rfl, ?hz81⟩) (by assumption) ?rezt81
      case hz81 => (intro w' hSw; (try dsimp only at hSw); go_simp; try with_reducible rfl)
      try simp only [Act.put, List.setIfInBounds_toArray, List.set_cons_zero, List.set_cons_succ, List.getElem_toArray, List.getElem_cons_zero, List.getElem_cons_succ]
      refine wpAnyH_done (by kernel_rfl) ?_ _
      go_wp2_with fail
      rw [HR.out, HF.out]
      exact ⟨rfl, hB0.trans (hHeld.mono hs0)⟩
end
end Go.Proofs.Ytoeaffmlolapnaa
