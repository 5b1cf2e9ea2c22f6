/- Several texts of this proof as one: WfG, WfH. Laid by merge.py. -/
import Derived.Test.YtlehpgokjppccaaTfA
import Derived.Test.YtlehpgokjppccaaTfB
import Derived.Test.YtlehpgokjppccaaTfC
import Derived.Test.YtlehpgokjppccaaTfD
import Derived.Test.YtlehpgokjppccaaTfF
import Derived.Test.YtlehpgokjppccaaTfH
import Derived.Test.YtlehpgokjppccaaTfI
import Derived.ArgAppend
import Derived.BigQuiet
import Derived.ChangeKeysEq
import Derived.Deep.DeepCutAuto
import Derived.Deep.MidRow
import Derived.Deep.QuietTactic
import Derived.Deep.RegionHeld3
import Derived.Deep.RegionLaw
import Derived.Handy
import Derived.Laws.Externs
import Derived.Laws.ResultCell
import Derived.Lib.AppendStr
import Derived.Lib.Hide
import Derived.Lib.MakeNoZero
import Derived.Lib.SlBuf
import Derived.Lib.SliceRun
import Derived.Lib.SmallJoins
import Derived.Maps.AppendAt
import Derived.Test.YtlehpgokjppccaaProg
import Derived.WalkKit
import Derived.WalkMore
import Derived.WalkSpells
namespace Go.Proofs.Ytlehpgokjppccaa
section
open Go.RowKit
set_option maxRecDepth 100000
set_option linter.unusedVariables false
set_option linter.unusedSimpArgs false
set_option linter.unnecessarySimpa false
theorem clip_any (w : World) (A : Option Addr) (m c : Nat) (h : m ≤ c) :
    Calls Try.prog 56 #[.slice A m c] w fun e w' => e = .returned (.slice A m m) ∧ w = w' := by
  have hsl : ∀ W : World, (Instr.slice 44 (.slice A m c) none (some (.int .i64 (m : Int))) (some (.int .i64 (m : Int)))).run Try.prog W = .ok (.slice A m m) W := fun W => by
    rw [run_slice_hm W 44 A m c Try.underlying44 .i64 .i64 (m : Int) (m : Int) (by omega) (by omega) (by omega)]
    have e : (sizeOf (Try.prog.elem 44)).run Try.prog W = .ok 3 W := by kernel_rfl
    rw [e]
    simp only [Result.andThen, sliced, Int.toNat_natCast, Nat.sub_zero, Nat.zero_mul]
    congr 1
    split
    · rfl
    · cases A with
      | none => rfl
      | some a => simp [Addr.add]
  clear h
  go_enter Try.func56, Try.ntmps56
  go_wp2
  go_ret
  exact ⟨rfl, rfl⟩

/-- A log: its head, its frames, less than a frame behind. -/
structure LogIs (l : List Int) (s : Nat) (k : Int) (F : List Fr) (t : List Int) : Prop where
  form : l = whL s k ++ (wEnts (nextI k (whL s k)) F ++ t)
  ok : ∀ f ∈ F, okW s f
  short : t.length < s + 16
  size : isSize (s : Int)
  key : 0 ≤ k ∧ k ≤ 18446744073709551615
theorem LogIs.len {l : List Int} {s : Nat} {k : Int} {F : List Fr} {t : List Int} (h : LogIs l s k F t) : l.length = 20 + F.length * (s + 16) + t.length := by
  rw [h.form, List.length_append, List.length_append, whL_length, wEnts_length _ (s := s) fun f hf => (h.ok f hf).2.2.2.2.1]
  omega
/-- Where the reader stands when i frames were read. -/
def atW (s : Nat) (F : List Fr) (i : Nat) : Nat := 20 + (F.take i).length * (s + 16)
def prevW (s : Nat) (k : Int) (F : List Fr) (i : Nat) : Int := wLast (nextI k (whL s k)) (F.take i)
theorem atW_lt {s : Nat} {F : List Fr} {i : Nat} (h : i < F.length) : atW s F (i + 1) = atW s F i + 16 + s := by
  unfold atW
  rw [List.length_take, List.length_take, Nat.min_eq_left (by omega), Nat.min_eq_left (by omega), Nat.add_mul]
  omega
theorem prevW_lt {s : Nat} {k : Int} {F : List Fr} {i : Nat} (h : i < F.length) : prevW s k F (i + 1) = lnk (prevW s k F i) (fr_ F i).pg (fr_ F i).cm (fr_ F i).b := by
  unfold prevW
  rw [List.take_succ_eq_append_getElem h, wLast_snoc, fr_lt h]
theorem LogIs.drop {l : List Int} {s : Nat} {k : Int} {F : List Fr} {t : List Int} (h : LogIs l s k F t) {i : Nat} (hi : i < F.length) :
    ∃ t', l.drop (atW s F i) = wEnt (prevW s k F i) (fr_ F i).pg (fr_ F i).cm (fr_ F i).b ++ t' := by
  have hL : (whL s k ++ wEnts (nextI k (whL s k)) (F.take i)).length = atW s F i := by
    rw [List.length_append, whL_length, wEnts_length _ (s := s) fun f hf => (h.ok f (List.mem_of_mem_take hf)).2.2.2.2.1]
    rfl
  have e : l = (whL s k ++ wEnts (nextI k (whL s k)) (F.take i)) ++ (wEnts (prevW s k F i) (F.drop i) ++ t) := by
    rw [h.form]
    conv => lhs; rw [← List.take_append_drop i F, wEnts_append]
    simp only [List.append_assoc]
    rfl
  rw [e, List.drop_left' hL, List.drop_eq_getElem_cons hi, wEnts, ← fr_lt hi, List.append_assoc]
  exact ⟨_, rfl⟩
theorem prevW_bd {l : List Int} {s : Nat} {k : Int} {F : List Fr} {t : List Int} (h : LogIs l s k F t) (i : Nat) : 0 ≤ prevW s k F i ∧ prevW s k F i ≤ 18446744073709551615 := wLast_bd (nextI_bd h.key _) _

/-- What the reader tells: a frame, or that there is none. -/
def FrOut (F : List Fr) (s i base : Nat) (pg cm : Int) (B : Option Addr) (z d : Nat) (w' : World) : Prop :=
  (i < F.length → pg = (fr_ F i).pg ∧ cm = (fr_ F i).cm ∧ z = s ∧ OwnB w' base B s d (fr_ F i).b) ∧ (¬ i < F.length → pg = 0 ∧ cm = 0 ∧ B = none ∧ z = 0 ∧ d = 0)

theorem wframe_any (w : World) (g : Nat) (A : Option Addr) (n c i s : Nat) (k : Int) (F : List Fr) (l t : List Int) (hl : LogIs l s k F t) (hr : RdrAt w g A n c (atW s F i : Nat) s (prevW s k F i) k) (hn : l.length = n) (hnc : n ≤ c) (hcm : c ≤ maxLen) (hA : Rd w A l) (hB : IsB l) (hn1 : n ≤ 1000000) :
    Calls Try.prog 55 #[.pointer (some ⟨g, 0, none⟩)] w fun e w' => ∃ pg cm B z d, e = .returned (.tuple #[.agg #[.int .i64 pg, .int .i64 cm, .slice B z d], .bool (decide (i < F.length))]) ∧ FrOut F s i w.heap.size pg cm B z d w' ∧ RdrAt w' g A n c (atW s F (i + 1) : Nat) s (prevW s k F (i + 1)) k ∧ Mut w g w' := by
  by_cases hi : i < F.length
  · obtain ⟨t', hd⟩ := hl.drop hi
    refine (wframe_next w g A n c (atW s F i) s (prevW s k F i) k (fr_ F i) l t' hr hn hnc hcm hA hB hl.size (by rw [fr_lt hi]; exact hl.ok _ (List.getElem_mem hi)) (prevW_bd hl i) hd hn1 _ rfl).mono ?_
    rintro e w' ⟨B, d, rfl, ho, hr', hm⟩
    rw [decide_eq_true hi]
    refine ⟨_, _, B, s, d, rfl, ⟨fun _ => ⟨rfl, rfl, rfl, ho⟩, fun h => absurd hi h⟩, ?_, hm⟩
    rw [prevW_lt hi, atW_lt hi]
    simpa using hr'
  · have hlen := hl.len
    have h48 : s ≤ 4096 := by have := hl.size; unfold isSize at this; omega
    have ht : ∀ j, F.length ≤ j → F.take j = F := fun j hj => List.take_of_length_le hj
    have ha : atW s F i = 20 + F.length * (s + 16) := by unfold atW; rw [ht i (by omega)]
    have hsh := hl.short
    refine (wframe_end w g A n c (atW s F i) s (prevW s k F i) k hr (by omega) (by omega) h48 (by omega) _ rfl).mono ?_
    rintro e w' ⟨rfl, hb⟩
    rw [decide_eq_false hi]
    refine ⟨0, 0, none, 0, 0, rfl, ⟨fun h => absurd h hi, fun _ => ⟨rfl, rfl, rfl, rfl, rfl⟩⟩, ?_, Mut.of hb g⟩
    have e1 : atW s F (i + 1) = atW s F i := by unfold atW; rw [ht i (by omega), ht (i + 1) (by omega)]
    have e2 : prevW s k F (i + 1) = prevW s k F i := by unfold prevW; rw [ht i (by omega), ht (i + 1) (by omega)]
    rw [e1, e2]
    exact hr.keep hb
end
section
open Go.RowKit
set_option maxRecDepth 100000
set_option linter.unusedVariables false
set_option linter.unusedSimpArgs false
set_option linter.unnecessarySimpa false
theorem results_tmp5 {fn : Func} {t u v x y : Tmp} (h : fn.results = #[.tmp t, .tmp u, .tmp v, .tmp x, .tmp y]) (tmps : Array Value) (P : Program) (w : World) :
    (results fn tmps).run P w = .ok (.tuple #[tmps.getD t undef, tmps.getD u undef, tmps.getD v undef, tmps.getD x undef, tmps.getD y undef]) w := by
  simp [results, h]
theorem atW_zero (s : Nat) (F : List Fr) : atW s F 0 = 20 := by simp [atW]
theorem atW_le (s : Nat) (F : List Fr) (i : Nat) : atW s F i ≤ 20 + F.length * (s + 16) := by
  unfold atW
  have : (F.take i).length * (s + 16) ≤ F.length * (s + 16) := Nat.mul_le_mul_right _ (by rw [List.length_take]; omega)
  omega
theorem prevW_zero (s : Nat) (k : Int) (F : List Fr) : prevW s k F 0 = nextI k (whL s k) := rfl
theorem FrOut.keep {F : List Fr} {s i base : Nat} {pg cm : Int} {B : Option Addr} {z d : Nat} {w w' : World} (h : FrOut F s i base pg cm B z d w) (hb : Below w.heap.size w w') : FrOut F s i base pg cm B z d w' :=
  ⟨fun hi => ⟨(h.1 hi).1, (h.1 hi).2.1, (h.1 hi).2.2.1, (h.1 hi).2.2.2.keep hb⟩, h.2⟩
theorem FrOut.mono {F : List Fr} {s i base base' : Nat} {pg cm : Int} {B : Option Addr} {z d : Nat} {w : World} (h : FrOut F s i base pg cm B z d w) (hb : base' ≤ base) : FrOut F s i base' pg cm B z d w :=
  ⟨fun hi => ⟨(h.1 hi).1, (h.1 hi).2.1, (h.1 hi).2.2.1, (h.1 hi).2.2.2.mono hb⟩, h.2⟩
theorem FrOut.mutN {F : List Fr} {s i base : Nat} {pg cm : Int} {B : Option Addr} {z d : Nat} {w w' : World} {gb : Nat} (h : FrOut F s i base pg cm B z d w) (hm : Mut w gb w') (hn : ∀ a, B = some a → a.block ≠ gb) : FrOut F s i base pg cm B z d w' :=
  ⟨fun hi => ⟨(h.1 hi).1, (h.1 hi).2.1, (h.1 hi).2.2.1, (h.1 hi).2.2.2.mutN hm hn⟩, h.2⟩
theorem FrOut.blk {F : List Fr} {s i base : Nat} {pg cm : Int} {B : Option Addr} {z d : Nat} {w : World} (h : FrOut F s i base pg cm B z d w) : ∀ a, B = some a → base ≤ a.block ∧ a.block < w.heap.size := by
  intro a ha
  by_cases hi : i < F.length
  · exact (h.1 hi).2.2.2.blkA a ha
  · rw [(h.2 hi).2.2.1] at ha; cases ha

theorem run_append_frg (w : World) (base : Nat) (A : Option Addr) (m c : Nat) (F : List Fr) (hown : OwnF w base A m c F) (g d : Nat) (f : Fr) (B : Option Addr) (cB : Nat) (k0 : w.cell? ⟨g, 0, none⟩ = some (.int .i64 f.pg)) (k1 : w.cell? ⟨g, 1, none⟩ = some (.int .i64 f.cm))
    (k2 : w.cell? ⟨g, 2, none⟩ = some (.slice B f.b.length cB)) (hB : OwnB w base B f.b.length cB f.b) (hm : m ≤ 1000000000000) (hbase : base ≤ w.heap.size) (ty : TypeId) :
    ∃ A' c' w', (Builtin.append_ #[44, 44] ty #[.slice A m c, .slice (some ⟨g, 0, none⟩) 1 d]).run Try.prog w = .ok (.slice A' (m + 1) c') w' ∧ OwnF w' base A' (m + 1) c' (F ++ [f]) ∧ w.grownBy w' (Value.ownBlock (.slice A m c)) ∧ Below base w w' ∧ (∀ A n c l, OwnB w base A n c l → OwnB w' base A n c l) := by
  obtain ⟨i, hi, hz, hsz, hby⟩ := info_parts info_fr
  obtain ⟨h1, cs, hrow, hvals⟩ := hown
  obtain ⟨v', w', hrun, h2, h3, h4, h5⟩ := run_append_own_at (P := Try.prog) w base 44 ty 53 i (.agg #[.int .i64 0, .int .i64 0, .slice none 0 0]) 3 40 Try.underlying44 hi hz hsz hby rfl (by decide) (.slice A m c) m cs hrow ⟨g, 0, none⟩ 1 d
    [.int .i64 f.pg, .int .i64 f.cm, .slice B f.b.length cB] rfl (by
      intro j u hu
      have hj : j < 3 := (List.getElem?_eq_some_iff.1 hu).1
      rw [Addr.add_lit, Nat.zero_add]
      rcases (by omega : j = 0 ∨ j = 1 ∨ j = 2) with rfl | rfl | rfl
      · rw [k0]; exact hu
      · rw [k1]; exact hu
      · rw [k2]; exact hu) (by
      intro u hu
      simp at hu
      rcases hu with rfl | rfl | rfl <;> rfl) (by unfold maxLen; omega) (by omega) hbase
  have hform : ∃ A' c', v' = .slice A' (m + 1) c' := by
    rcases h2.2 with ⟨hv, hn⟩ | ⟨g', cap, cur, hv, _⟩
    · omega
    · exact ⟨_, _, hv⟩
  obtain ⟨A', c', rfl⟩ := hform
  have hlen : cs.length = m * 3 := hrow.1
  refine ⟨A', c', w', hrun, ⟨by simp [h1], _, h2, fun j hj => ?_⟩, h3, (Below.refl _ _).grown h3 hbase (fun k hk => (World.ownsRow.lt hrow k hk).1), fun A n c l ho => ho.grownF hrow h3⟩
  by_cases hjm : j < m
  · obtain ⟨Aj, cj, q1, q2, q3, q4⟩ := hvals j (by omega)
    have e : fr_ (F ++ [f]) j = fr_ F j := by simp [fr_, List.getElem?_append_left, show j < F.length by omega]
    rw [e]
    exact ⟨Aj, cj, by rw [List.getElem?_append_left (by omega)]; exact q1, by rw [List.getElem?_append_left (by omega)]; exact q2, by rw [List.getElem?_append_left (by omega)]; exact q3, q4.grownF hrow h3⟩
  · have hj' : j = m := by simp at hj; omega
    subst hj'
    have e : fr_ (F ++ [f]) j = f := by simp [fr_, ← h1]
    rw [e]
    refine ⟨B, cB, ?_, ?_, ?_, hB.grownF hrow h3⟩
    · rw [List.getElem?_append_right (by omega), hlen, Nat.sub_self]; rfl
    · rw [List.getElem?_append_right (by omega), hlen, show j * 3 + 1 - j * 3 = 1 by omega]; rfl
    · rw [List.getElem?_append_right (by omega), hlen, show j * 3 + 2 - j * 3 = 2 by omega]; rfl

theorem wp_append_frg {ops : Array Oper} {rest : List Oper} {o : Oper} {a : Act} {w : World} {Q : Exit → Act → World → Prop} (hgd : o.guard = none) (s x : Operand)
    (ho : o.op = .call { callee := .builtin .append, args := #[s, x], argTypes := #[44, 44] })
    (base : Nat) (A : Option Addr) (m c : Nat) (F : List Fr) (hs : a.eval s = .slice A m c) (hown : OwnF w base A m c F) (g d : Nat) (f : Fr) (B : Option Addr) (cB : Nat) (hx : a.eval x = .slice (some ⟨g, 0, none⟩) 1 d)
    (k0 : w.cell? ⟨g, 0, none⟩ = some (.int .i64 f.pg)) (k1 : w.cell? ⟨g, 1, none⟩ = some (.int .i64 f.cm)) (k2 : w.cell? ⟨g, 2, none⟩ = some (.slice B f.b.length cB)) (hB : OwnB w base B f.b.length cB f.b) (hm : m ≤ 1000000000000) (hbase : base ≤ w.heap.size)
    (h : ∀ A' c' w', OwnF w' base A' (m + 1) c' (F ++ [f]) → w.grownBy w' (Value.ownBlock (.slice A m c)) → Below base w w' → (∀ A n c l, OwnB w base A n c l → OwnB w' base A n c l) → wpList Try.prog ops Q rest (a.put o.dst (.slice A' (m + 1) c')) w') : wpList Try.prog ops Q (o :: rest) a w := by
  obtain ⟨A', c', w', hrun, h2, hgr, hb, hk⟩ := run_append_frg w base A m c F hown g d f B cB k0 k1 k2 hB hm hbase o.type
  refine wpList_plain hgd fun K hK => ?_
  unfold Oper.wp execOp
  simp only [ho, resolve, invoke, builtin, Sem.run_bind, Sem.run_pure, Result.andThen_ok, List.map_toArray, List.map_cons, List.map_nil, hs, hx, hrun]
  exact hK _ _ (h A' c' w' h2 hgr hb hk)
theorem FrAt.grownF {w w' : World} {g : Nat} {pg cm : Int} {A : Option Addr} {m c : Nat} {row : Option Nat} (h : FrAt w g pg cm A m c) (hg : w.grownBy w' row) (hne : some g ≠ row) : FrAt w' g pg cm A m c := by
  have hl : g < w.heap.size := World.block_lt_of_cell? w ⟨g, 0, none⟩ h.1
  have e := hg.block g hl hne
  unfold FrAt World.cell? at h ⊢
  simp only [e] at h ⊢
  exact h
theorem OwnF.blkF {w : World} {base m c : Nat} {A : Option Addr} {F : List Fr} (h : OwnF w base A m c F) : ∀ a, A = some a → a.block < w.heap.size := by
  intro a ha
  subst ha
  obtain ⟨_, cs, hown, _⟩ := h
  rcases hown.2 with ⟨hv, _⟩ | ⟨g, cap, cur, hv, hbg, hgg, rest⟩
  · cases hv
  · have e1 : some a = some (⟨g, 0, none⟩ : Addr) := by injection hv
    injection e1 with e1
    subst e1
    exact (Array.getElem?_eq_some_iff.1 hgg).1

/-- The loop of Scan: j frames are told, the next one is read. -/
def WScRel (w : World) (g : Nat) (A : Option Addr) (n c s : Nat) (k : Int) (F : List Fr) (v3 v4 v5 v8 v9 v10 : Value) (wr : World) : Prop :=
  ∃ (j : Nat) (B8 : Option Addr) (c8 g9 : Nat) (pg cm : Int) (B : Option Addr) (z d : Nat), j ≤ F.length ∧ v8 = .slice B8 j c8 ∧ v3 = .slice B8 j j ∧ v4 = .int .u64 (prevW s k F j) ∧ v5 = .int .i64 ((atW s F j : Nat) : Int) ∧ v9 = .pointer (some ⟨g9, 0, none⟩) ∧ v10 = .bool (decide (j < F.length)) ∧
    OwnF wr (g + 1) B8 j c8 (F.take j) ∧ (∀ a, B8 = some a → a.block ≠ g9) ∧ FrAt wr g9 pg cm B z d ∧ FrOut F s j (g + 1) pg cm B z d wr ∧ RdrAt wr g A n c ((atW s F (j + 1) : Nat) : Int) s (prevW s k F (j + 1)) k ∧ g < wr.heap.size ∧ Below w.heap.size w wr

set_option maxHeartbeats 16000000 in
theorem wscan_ok (w : World) (A : Option Addr) (n c s : Nat) (k : Int) (F : List Fr) (l t : List Int) (hl : LogIs l s k F t) (hn : l.length = n) (hnc : n ≤ c) (hcm : c ≤ maxLen) (hA : Rd w A l) (hB : IsB l) (hn1 : n ≤ 1000000) (R : Ending → World → Prop)
    (hR : R = fun e w' => ∃ B d, e = .returned (.tuple #[.int .i64 (s : Int), .slice B F.length d, .int .u64 (wLast (nextI k (whL s k)) F), .int .i64 ((20 + F.length * (s + 16) : Nat) : Int), .int .i64 0]) ∧ F.length ≤ d ∧ d ≤ maxLen ∧ RdFr w' B F ∧ Below w.heap.size w w') :
    Calls Try.prog 34 #[.slice A n c] w R := by
  have HR := Lib.hid hR; clear hR
  have HLI := Lib.hid hl
  have hlen := hl.len
  rw [hn] at hlen
  have hFm : F.length ≤ 1000000 := by
    have : F.length * 16 ≤ F.length * (s + 16) := Nat.mul_le_mul_left _ (by omega)
    omega
  have HLEN := Lib.hid hlen
  have HN := Lib.hid hn
  have HNC := Lib.hid hnc
  have HCM := Lib.hid hcm
  have HB := Lib.hid hB
  have HN1 := Lib.hid hn1
  have HZ := Lib.hid (show s ≤ 4096 by have := hl.size; unfold isSize at this; omega)
  obtain ⟨W0, hW0⟩ : ∃ W, W = w.alloc (.cells #[.slice A n c, .int .i64 0, .int .i64 0, .int .u64 0, .int .u64 0] 93) := ⟨_, rfl⟩
  have hb0 : Below w.heap.size w W0 := by rw [hW0]; exact (Below.refl _ _).alloc (Nat.le_refl _) _
  have hl0 : W0.heap.size = w.heap.size + 1 := by rw [hW0]; simp
  have HL0 := Lib.hid hl0
  have HD0 := Lib.hid (show RdrAt W0 w.heap.size A n c 0 0 0 0 from ⟨by rw [hW0]; exact heap_alloc_new w _⟩)
  have HAW := Lib.hid hA
  have HA0 := Lib.hid (hA.keep hb0)
  have HW := Lib.hid hW0
  clear hW0 hl hn hnc hcm hB hA hn1 hlen hl0
  obtain ⟨g, hg⟩ : ∃ g, w.heap.size = g := ⟨_, rfl⟩
  have HG := Lib.hid hg
  go_enter Try.func34, Try.ntmps34
  go_upto_region 2 with fail
  rw [← HW.out]
  rw [hg] at HD0
  clear HW hg
  go_wp2_with fail
  refine (whead_ok _ g A n c s k l _ HD0.out HLI.out.form HN.out HNC.out HCM.out HA0.out HB.out HLI.out.size HLI.out.key _ rfl).mono ?_
  rintro e w1 ⟨rfl, hr1, hm1⟩
  have HD1 := Lib.hid (show RdrAt w1 g A n c (atW s F 0 : Nat) s (prevW s k F 0) k by rw [atW_zero, prevW_zero]; exact hr1)
  have HM1 := Lib.hid hm1
  have HA1 := Lib.hid (HD0.out.rd HA0.out hm1)
  have K1 : ∀ W : World, Below w1.heap.size w1 W → W.cell? ⟨g, 1, none⟩ = some (.int .i64 20) := fun W hW => (hr1.keep hW).c1
  have K3 : ∀ W : World, Below w1.heap.size w1 W → W.cell? ⟨g, 3, none⟩ = some (.int .u64 (nextI k (whL s k))) := fun W hW => (hr1.keep hW).c3
  clear hr1 hm1
  obtain ⟨p0, hp0⟩ : ∃ q, nextI k (whL s k) = q := ⟨_, rfl⟩
  have HP0 := Lib.hid hp0
  rw [hp0] at K3
  clear hp0
  go_upto_region 5 with fail
  refine wp_region_held_drew (S := (fun W => Below w1.heap.size w1 W)) (by kernel_rfl) ?_ (fun hHeld => ?_)
  · exact (Below.refl _ w1).drew
  refine' wpAnyH_take (i := 0) (oi := _) (v := _) rfl (by kernel_rfl) (by kernel_rfl) (by kernel_rfl) (fun _ _ _ h => h) (Or.inl ⟨by rfl, ?hz1⟩) (by assumption) ?rezt1
  case hz1 => (intro w' hSw; (try dsimp only at hSw); go_simp; try with_reducible rfl)
  try simp only [Act.put, List.setIfInBounds_toArray, List.set_cons_zero, List.set_cons_succ, List.getElem_toArray, List.getElem_cons_zero, List.getElem_cons_succ]
  refine' wpAnyH_take (i := 1) (oi := _) (v := _) rfl (by kernel_rfl) (by kernel_rfl) (by kernel_rfl) (fun _ _ _ h => h) (Or.inl ⟨by rfl, ?hz2⟩) (by assumption) ?rezt2
  case hz2 => (intro w' hSw; (try dsimp only at hSw); go_simp; try with_reducible rfl)
  try simp only [Act.put, List.setIfInBounds_toArray, List.set_cons_zero, List.set_cons_succ, List.getElem_toArray, List.getElem_cons_zero, List.getElem_cons_succ]
  refine' wpAnyH_take (i := 2) (oi := _) (v := _) rfl (by kernel_rfl) (by kernel_rfl) (by kernel_rfl) (fun _ _ _ h => h) (Or.inl ⟨by rfl, ?hz3⟩) (by assumption) ?rezt3
  case hz3 => (intro w' hSw; (try dsimp only at hSw); go_simp; try with_reducible rfl)
  try simp only [Act.put, List.setIfInBounds_toArray, List.set_cons_zero, List.set_cons_succ, List.getElem_toArray, List.getElem_cons_zero, List.getElem_cons_succ]
  refine' wpAnyH_take (i := 3) (oi := _) (v := _) rfl (by kernel_rfl) (by kernel_rfl) (by kernel_rfl) (fun _ _ _ h => h) (Or.inl ⟨by rfl, ?hz4⟩) (by assumption) ?rezt4
  case hz4 => (intro w' hSw; (try dsimp only at hSw); go_simp; try with_reducible rfl)
  try simp only [Act.put, List.setIfInBounds_toArray, List.set_cons_zero, List.set_cons_succ, List.getElem_toArray, List.getElem_cons_zero, List.getElem_cons_succ]
  refine' wpAnyH_take (i := 4) (oi := _) (v := _) rfl (by kernel_rfl) (by kernel_rfl) (by kernel_rfl) (fun _ _ _ h => h) (Or.inl ⟨by rfl, ?hz5⟩) (by assumption) ?rezt5
  case hz5 => (intro w' hSw; (try dsimp only at hSw); go_simp; try with_reducible rfl)
  try simp only [Act.put, List.setIfInBounds_toArray, List.set_cons_zero, List.set_cons_succ, List.getElem_toArray, List.getElem_cons_zero, List.getElem_cons_succ]
  refine' wpAnyH_take (i := 5) (oi := _) (v := _) rfl (by kernel_rfl) (by kernel_rfl) (by kernel_rfl) (fun _ _ _ h => h) (Or.inl ⟨by rfl, ?hz6⟩) (by assumption) ?rezt6
  case hz6 => (intro w' hSw; (try dsimp only at hSw); go_simp; try with_reducible rfl)
  try simp only [Act.put, List.setIfInBounds_toArray, List.set_cons_zero, List.set_cons_succ, List.getElem_toArray, List.getElem_cons_zero, List.getElem_cons_succ]
  refine' wpAnyH_take (i := 6) (oi := _) (v := _) rfl (by kernel_rfl) (by kernel_rfl) (by kernel_rfl) (fun _ _ _ h => h) (Or.inl ⟨by rfl, ?hz7⟩) (by assumption) ?rezt7
  case hz7 => (intro w' hSw; (try dsimp only at hSw); go_simp; try with_reducible rfl)
  try simp only [Act.put, List.setIfInBounds_toArray, List.set_cons_zero, List.set_cons_succ, List.getElem_toArray, List.getElem_cons_zero, List.getElem_cons_succ]
  refine' wpAnyH_take (i := 7) (oi := _) (v := _) rfl (by kernel_rfl) (by kernel_rfl) (by kernel_rfl) (fun _ _ _ h => h) (Or.inl ⟨by rfl, ?hz8⟩) (by assumption) ?rezt8
  case hz8 => (intro w' hSw; (try dsimp only at hSw); go_simp; try with_reducible rfl)
  try simp only [Act.put, List.setIfInBounds_toArray, List.set_cons_zero, List.set_cons_succ, List.getElem_toArray, List.getElem_cons_zero, List.getElem_cons_succ]
  refine' wpAnyH_take (i := 8) (oi := _) (v := _) rfl (by kernel_rfl) (by kernel_rfl) (by kernel_rfl) (fun _ _ _ h => h) (Or.inl ⟨by rfl, ?hz9⟩) (by assumption) ?rezt9
  case hz9 => (intro w' hSw; (try dsimp only at hSw); go_simp; try with_reducible rfl)
  try simp only [Act.put, List.setIfInBounds_toArray, List.set_cons_zero, List.set_cons_succ, List.getElem_toArray, List.getElem_cons_zero, List.getElem_cons_succ]
  refine' wpAnyH_take (i := 9) (oi := _) (v := _) rfl (by kernel_rfl) (by kernel_rfl) (by kernel_rfl) (fun _ _ _ h => h) (Or.inl ⟨by rfl, ?hz10⟩) (by assumption) ?rezt10
  case hz10 => (intro w' hSw; (try dsimp only at hSw); go_simp; try with_reducible rfl)
  try simp only [Act.put, List.setIfInBounds_toArray, List.set_cons_zero, List.set_cons_succ, List.getElem_toArray, List.getElem_cons_zero, List.getElem_cons_succ]
  refine wpAnyH_done (by kernel_rfl) ?_ _
  have HD2 := Lib.hid (HD1.out.keep hHeld)
  have HM2 := Lib.hid (HM1.out.trans (Mut.of hHeld g))
  clear K1 K3 hHeld
  obtain ⟨w2, hw2⟩ : ∃ W, W = w1.drew := ⟨_, rfl⟩
  rw [← hw2] at HD2 HM2 ⊢
  clear hw2
  go_wp2_with fail
  refine (wframe_any _ g A n c 0 s k F l t HLI.out HD2.out HN.out HNC.out HCM.out (HD0.out.rd HA0.out HM2.out) HB.out HN1.out).mono ?_
  rintro e w3 ⟨pg, cm, B, z, d, rfl, ho3, hr3, hm3⟩
  have HO3 := Lib.hid ho3
  have HD3 := Lib.hid hr3
  have HM3 := Lib.hid (HM2.out.trans hm3)
  clear ho3 hr3 hm3
  go_wp2_with fail
  obtain ⟨W4, hW4⟩ : ∃ W, W = w3.alloc (.cells #[.int .i64 pg, .int .i64 cm, .slice B z d] 53) := ⟨_, rfl⟩
  have hge := HG.out
  have hl1 := HL0.out
  have hsz3 := HM3.out.size
  have hb3 : Below w.heap.size w w3 := HM3.out.below hb0 (by omega) (by omega)
  have hb34 : Below w3.heap.size w3 W4 := by rw [hW4]; exact (Below.refl _ _).alloc (Nat.le_refl _) _
  have hb4 : Below w.heap.size w W4 := hb3.trans (hb34.mono hb3.size)
  have HF4 := Lib.hid (show FrAt W4 w3.heap.size pg cm B z d by rw [hW4]; exact ⟨by simp [go_sem], by simp [go_sem], by simp [go_sem]⟩)
  have HO4 := Lib.hid ((HO3.out.keep hb34).mono (base' := g + 1) (by have := HM2.out.size; omega))
  have HD4 := Lib.hid (HD3.out.keep hb34)
  have hg4 : g < W4.heap.size := by have := hb34.size; omega
  rw [← hW4]
  have HREL := Lib.hid (show WScRel w g A n c s k F (.slice none 0 0) (.int .u64 p0) (.int .i64 20) (.slice none 0 0) (.pointer (some ⟨w3.heap.size, 0, none⟩)) (.bool (decide (0 < F.length))) W4 from
    ⟨0, none, 0, w3.heap.size, pg, cm, B, z, d, Nat.zero_le _, rfl, rfl, by rw [prevW_zero, HP0.out], by rw [atW_zero]; rfl, rfl, rfl, by rw [List.take_zero]; exact OwnF.nil _ _, (fun a ha => by cases ha), HF4.out, HO4.out, HD4.out, hg4, hb4⟩)
  clear hW4 hb34 hb3 hsz3 HF4 HO4 HD4 hb4 hg4 hge hl1 HD2 HD1 HD3 HO3 HM3 HM2 HM1 HA1
  generalize (Value.pointer (some ⟨w3.heap.size, 0, none⟩)) = v9 at HREL ⊢
  generalize (Value.bool (decide (0 < F.length))) = v10 at HREL ⊢
  go_loopw [3, 4, 5, 8, 9, 10] (fun v3 v4 v5 v8 v9 v10 wr => WScRel w g A n c s k F v3 v4 v5 v8 v9 v10 wr) (fun _ _ v5 _ _ _ _ => n - (intOf v5).toNat)
  case atStart => exact HREL.out
  case round =>
    clear HREL
    rename World => wr
    obtain ⟨j, B8, c8, g9, pg, cm, B, z, d, hj, rfl, rfl, rfl, rfl, rfl, rfl, hof, hn9, hfr, hout, hrd, hgs, hb⟩ := hrel
    have HOF := Lib.hid hof
    have HN9 := Lib.hid hn9
    have HFR := Lib.hid hfr
    have HOUT := Lib.hid hout
    have HRD := Lib.hid hrd
    have HAR := Lib.hid (HAW.out.keep hb)
    have HBW := Lib.hid hb
    have HGS := Lib.hid hgs
    clear hof hn9 hfr hout hrd hb hgs
    by_cases hlt : j < F.length
    · rw [decide_eq_true hlt]
      obtain ⟨e1, e2, e3, hob⟩ := HOUT.out.1 hlt
      have hokf := HLI.out.ok _ (List.getElem_mem hlt)
      rw [← fr_lt hlt] at hokf
      obtain ⟨f, hf⟩ : ∃ f, fr_ F j = f := ⟨_, rfl⟩
      rw [hf] at e1 e2 hob hokf
      have HTK := Lib.hid (show F.take (j + 1) = F.take j ++ [f] by rw [List.take_succ_eq_append_getElem hlt, ← fr_lt hlt, hf])
      obtain ⟨o1, o2, o3, o4, o5, o6⟩ := hokf
      subst e1 e2
      subst z
      have HOB := Lib.hid hob
      have HFL := Lib.hid o5
      have hcz : (f.cm != 0) = true := by simp; omega
      clear hob hf o5 o6
      go_upto_region 10 with fail
      iterate 4 go_step
      refine wp_load_fr rfl _ rfl g9 f.pg f.cm B s d rfl HFR.out ?_
      iterate 3 go_step
      have hW1 : Below wr.heap.size wr (wr.alloc (.cells #[.int .i64 f.pg, .int .i64 f.cm, .slice B s d] 53)) := (Below.refl _ _).alloc (Nat.le_refl _) _
      refine wp_append_frg rfl (.tmp 38) (.tmp 40) rfl (g + 1) B8 j c8 (F.take j) rfl (HOF.out.keep hW1) wr.heap.size _ f B d rfl (by simp [go_sem]) (by simp [go_sem]) (by simp [go_sem, HFL.out]) (by rw [HFL.out]; exact HOB.out.keep hW1) (by omega) (by have := HGS.out; simp [go_sem]; omega) ?_
      intro B5 c5 w5 hof5 hgr5 hb5 _
      have hgs := HGS.out
      have hb15 : Below (g + 1) wr w5 := (hW1.mono (by omega)).trans hb5
      have HFR5 := Lib.hid ((HFR.out.keepF hW1).grownF hgr5 (by
        cases B8 with
        | none => simp [Value.ownBlock]
        | some a => simp only [Value.ownBlock, ne_eq, Option.some.injEq]; exact fun e => HN9.out a rfl e.symm))
      have HOF5 := Lib.hid (show OwnF w5 (g + 1) B5 (j + 1) c5 (F.take (j + 1)) by rw [HTK.out]; exact hof5)
      have HD5 := Lib.hid (HRD.out.keepB hb15 (by omega))
      have hsz5 : wr.heap.size ≤ w5.heap.size := hb15.size
      have hb05 := Lib.hid (HBW.out.trans (hb15.mono (by have := HG.out; omega)))
      have hm9 := HFR5.out.2.1
      clear hW1 hof5 hgr5 hb5 hb15
      go_wp2_with fail
      refine (clip_any _ B5 (j + 1) c5 HOF5.out.cap.1).mono ?_
      rintro e w6 ⟨rfl, rfl⟩
      have K1 : ∀ W : World, Below w5.heap.size w5 W → W.cell? ⟨g, 1, none⟩ = some (.int .i64 ((atW s F (j + 1) : Nat) : Int)) := fun W hW => (HD5.out.keep hW).c1
      have K3 : ∀ W : World, Below w5.heap.size w5 W → W.cell? ⟨g, 3, none⟩ = some (.int .u64 (prevW s k F (j + 1))) := fun W hW => (HD5.out.keep hW).c3
      go_upto_region 13 with fail
      refine wp_region_held_drew (S := (fun W => Below w5.heap.size w5 W)) (by kernel_rfl) ?_ (fun hHeld => ?_)
      · exact (Below.refl _ w5).drew
      refine' wpAnyH_take (i := 0) (oi := _) (v := _) rfl (by kernel_rfl) (by kernel_rfl) (by kernel_rfl) (fun _ _ _ h => h) (Or.inl ⟨by rfl, ?hz11⟩) (by assumption) ?rezt11
      case hz11 => (intro w' hSw; (try dsimp only at hSw); go_simp; try with_reducible rfl)
      try simp only [Act.put, List.setIfInBounds_toArray, List.set_cons_zero, List.set_cons_succ, List.getElem_toArray, List.getElem_cons_zero, List.getElem_cons_succ]
      refine' wpAnyH_take (i := 1) (oi := _) (v := _) rfl (by kernel_rfl) (by kernel_rfl) (by kernel_rfl) (fun _ _ _ h => h) (Or.inl ⟨by rfl, ?hz12⟩) (by assumption) ?rezt12
      case hz12 => (intro w' hSw; (try dsimp only at hSw); go_simp; try with_reducible rfl)
      try simp only [Act.put, List.setIfInBounds_toArray, List.set_cons_zero, List.set_cons_succ, List.getElem_toArray, List.getElem_cons_zero, List.getElem_cons_succ]
      refine' wpAnyH_take (i := 2) (oi := _) (v := _) rfl (by kernel_rfl) (by kernel_rfl) (by kernel_rfl) (fun _ _ _ h => h) (Or.inl ⟨by rfl, ?hz13⟩) (by assumption) ?rezt13
      case hz13 => (intro w' hSw; (try dsimp only at hSw); go_simp; try with_reducible rfl)
      try simp only [Act.put, List.setIfInBounds_toArray, List.set_cons_zero, List.set_cons_succ, List.getElem_toArray, List.getElem_cons_zero, List.getElem_cons_succ]
      refine' wpAnyH_take (i := 3) (oi := _) (v := _) rfl (by kernel_rfl) (by kernel_rfl) (by kernel_rfl) (fun _ _ _ h => h) (Or.inl ⟨by rfl, ?hz14⟩) (by assumption) ?rezt14
      case hz14 => (intro w' hSw; (try dsimp only at hSw); go_simp; try with_reducible rfl)
      try simp only [Act.put, List.setIfInBounds_toArray, List.set_cons_zero, List.set_cons_succ, List.getElem_toArray, List.getElem_cons_zero, List.getElem_cons_succ]
      refine' wpAnyH_take (i := 4) (oi := _) (v := _) rfl (by kernel_rfl) (by kernel_rfl) (by kernel_rfl) (fun _ _ _ h => h) (Or.inl ⟨by rfl, ?hz15⟩) (by assumption) ?rezt15
      case hz15 => (intro w' hSw; (try dsimp only at hSw); go_simp; try with_reducible rfl)
      try simp only [Act.put, List.setIfInBounds_toArray, List.set_cons_zero, List.set_cons_succ, List.getElem_toArray, List.getElem_cons_zero, List.getElem_cons_succ]
      refine' wpAnyH_take (i := 5) (oi := _) (v := _) rfl (by kernel_rfl) (by kernel_rfl) (by kernel_rfl) (fun _ _ _ h => h) (Or.inl ⟨by rfl, ?hz16⟩) (by assumption) ?rezt16
      case hz16 => (intro w' hSw; (try dsimp only at hSw); go_simp; try with_reducible rfl)
      try simp only [Act.put, List.setIfInBounds_toArray, List.set_cons_zero, List.set_cons_succ, List.getElem_toArray, List.getElem_cons_zero, List.getElem_cons_succ]
      refine' wpAnyH_take (i := 6) (oi := _) (v := _) rfl (by kernel_rfl) (by kernel_rfl) (by kernel_rfl) (fun _ _ _ h => h) (Or.inl ⟨by rfl, ?hz17⟩) (by assumption) ?rezt17
      case hz17 => (intro w' hSw; (try dsimp only at hSw); go_simp; try with_reducible rfl)
      try simp only [Act.put, List.setIfInBounds_toArray, List.set_cons_zero, List.set_cons_succ, List.getElem_toArray, List.getElem_cons_zero, List.getElem_cons_succ]
      refine' wpAnyH_take (i := 7) (oi := _) (v := _) rfl (by kernel_rfl) (by kernel_rfl) (by kernel_rfl) (fun _ _ _ h => h) (Or.inl ⟨by rfl, ?hz18⟩) (by assumption) ?rezt18
      case hz18 => (intro w' hSw; (try dsimp only at hSw); go_simp; try with_reducible rfl)
      try simp only [Act.put, List.setIfInBounds_toArray, List.set_cons_zero, List.set_cons_succ, List.getElem_toArray, List.getElem_cons_zero, List.getElem_cons_succ]
      refine' wpAnyH_take (i := 8) (oi := _) (v := _) rfl (by kernel_rfl) (by kernel_rfl) (by kernel_rfl) (fun _ _ _ h => h) (Or.inl ⟨by rfl, ?hz19⟩) (by assumption) ?rezt19
      case hz19 => (intro w' hSw; (try dsimp only at hSw); go_simp; try with_reducible rfl)
      try simp only [Act.put, List.setIfInBounds_toArray, List.set_cons_zero, List.set_cons_succ, List.getElem_toArray, List.getElem_cons_zero, List.getElem_cons_succ]
      refine' wpAnyH_take (i := 9) (oi := _) (v := _) rfl (by kernel_rfl) (by kernel_rfl) (by kernel_rfl) (fun _ _ _ h => h) (Or.inl ⟨by rfl, ?hz20⟩) (by assumption) ?rezt20
      case hz20 => (intro w' hSw; (try dsimp only at hSw); go_simp; try with_reducible rfl)
      try simp only [Act.put, List.setIfInBounds_toArray, List.set_cons_zero, List.set_cons_succ, List.getElem_toArray, List.getElem_cons_zero, List.getElem_cons_succ]
      refine wpAnyH_done (by kernel_rfl) ?_ _
      obtain ⟨w6, hw6⟩ : ∃ W, W = w5.drew := ⟨_, rfl⟩
      rw [← hw6] at hHeld ⊢
      have HFR6 := Lib.hid (HFR5.out.keepF hHeld)
      have HOF6 := Lib.hid (HOF5.out.keep hHeld)
      have HD6 := Lib.hid (HD5.out.keep hHeld)
      have hsz6 : w5.heap.size ≤ w6.heap.size := hHeld.size
      have hb06 := Lib.hid (hb05.out.trans (hHeld.mono hb05.out.size))
      clear K1 K3 hw6 hHeld hm9
      go_upto_region 14 with fail
      go_step
      refine wp_load_fr rfl _ rfl g9 f.pg f.cm B s d rfl HFR6.out ?_
      go_wp2_with fail
      obtain ⟨W7, hW7⟩ : ∃ W, W = w6.alloc (.cells #[.int .i64 f.pg, .int .i64 f.cm, .slice B s d] 53) := ⟨_, rfl⟩
      have hb67 : Below w6.heap.size w6 W7 := by rw [hW7]; exact (Below.refl _ _).alloc (Nat.le_refl _) _
      have HT7 := Lib.hid (show W7.there w6.heap.size 0 3 by rw [hW7]; exact there_new3F _ _ _ _ _)
      have hl7 : w6.heap.size < W7.heap.size := by rw [hW7]; simp
      have HD7 := Lib.hid (HD6.out.keep hb67)
      have hb07 := hb06.out.trans (hb67.mono hb06.out.size)
      rw [← hW7]
      clear hW7
      refine (wframe_any W7 g A n c (j + 1) s k F l t HLI.out HD7.out HN.out HNC.out HCM.out (HAW.out.keep hb07) HB.out HN1.out).mono ?_
      rintro e w8 ⟨pg2, cm2, B2, z2, d2, rfl, ho8, hr8, hm8⟩
      have HO8 := Lib.hid ho8
      have HD8 := Lib.hid hr8
      have HM8 := Lib.hid ((Mut.of hb67 g).trans hm8)
      have hne9 : w6.heap.size ≠ g := by omega
      have HT8 := Lib.hid (there_mut HT7.out hm8 hl7 hne9)
      have hl8 := hm8.size
      clear ho8 hr8 hm8 HT7 HD7 hb67
      simp only []
      iterate 10 go_step
      refine wp_store_fr rfl _ _ rfl w6.heap.size pg2 cm2 B2 z2 d2 rfl rfl HT8.out ?_
      obtain ⟨w9, hw9⟩ : ∃ W, W = w8.setCells w6.heap.size 0 (frC pg2 cm2 B2 z2 d2) := ⟨_, rfl⟩
      have hm89 : Mut w8 w6.heap.size w9 := by rw [hw9]; exact (Mut.refl _ _).setsAt (.inr rfl) _ _
      have hm69 : Mut w6 g w9 := by rw [hw9]; exact HM8.out.setsAt (.inl (Nat.le_refl _)) _ _
      have HF9 := Lib.hid (show FrAt w9 w6.heap.size pg2 cm2 B2 z2 d2 by rw [hw9]; exact FrAt.stored HT8.out _ _ _ _ _)
      have HO9 := Lib.hid ((HO8.out.mutN hm89 (fun a ha => by have := HO8.out.blk a ha; omega)).mono (base' := g + 1) (by omega))
      have HD9 := Lib.hid (HD8.out.mutR hm89 (by omega))
      have HOF9 := Lib.hid (HOF6.out.mut hm69 (by omega))
      have hge := HG.out
      have hb09 : Below w.heap.size w w9 := hm69.below hb06.out (by omega) (by omega)
      have hs9 : g < w9.heap.size := by have := hm69.size; omega
      have HNE := Lib.hid (show ∀ a, B5 = some a → a.block ≠ w6.heap.size from fun a ha => by have := HOF6.out.blkF a ha; omega)
      rw [← hw9]
      clear hw9 hm89 hm69 hge
      go_wp2_with fail
      have HREL := Lib.hid (show WScRel w g A n c s k F (.slice B5 (j + 1) (j + 1)) (.int .u64 (prevW s k F (j + 1))) (.int .i64 ((atW s F (j + 1) : Nat) : Int)) (.slice B5 (j + 1) c5) (.pointer (some ⟨w6.heap.size, 0, none⟩)) (.bool (decide (j + 1 < F.length))) w9 from
        ⟨j + 1, B5, c5, w6.heap.size, pg2, cm2, B2, z2, d2, hlt, rfl, rfl, rfl, rfl, rfl, rfl, HOF9.out, HNE.out, HF9.out, HO9.out, HD9.out, hs9, hb09⟩)
      go_roundw
      case rel => exact HREL.out
      case measure =>
        have h1 := atW_lt (s := s) hlt
        have h2 := atW_le s F (j + 1)
        have h3 := HLEN.out
        simp only [intOf, Int.toNat_natCast]
        omega
    · obtain rfl : j = F.length := by omega
      rw [decide_eq_false (by omega)]
      have m2 := HRD.out.c2
      have HX := Lib.hid (show prevW s k F F.length = wLast (nextI k (whL s k)) F by unfold prevW; rw [List.take_length])
      have HY := Lib.hid (show atW s F F.length = 20 + F.length * (s + 16) by unfold atW; rw [List.take_length])
      have HRF := Lib.hid HOF.out.rd
      rw [List.take_length] at HRF
      have hcap := HOF.out.cap
      clear hlt
      go_wp2_with fail
      rw [HX.out, HY.out]
      refine bodyPost_ret (results_tmp5 rfl _ _ _) rfl ?_
      rw [HR.out]
      exact ⟨B8, F.length, rfl, Nat.le_refl _, by omega, HRF.out, HBW.out⟩
end
end Go.Proofs.Ytlehpgokjppccaa
