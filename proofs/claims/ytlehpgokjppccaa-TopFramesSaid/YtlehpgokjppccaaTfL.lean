/- Several texts of this proof as one: WfL, WfM. Laid by merge.py. -/
import Derived.Test.YtlehpgokjppccaaTfA
import Derived.Test.YtlehpgokjppccaaTfB
import Derived.Test.YtlehpgokjppccaaTfC
import Derived.Test.YtlehpgokjppccaaTfD
import Derived.Test.YtlehpgokjppccaaTfE
import Derived.Test.YtlehpgokjppccaaTfF
import Derived.Test.YtlehpgokjppccaaTfG
import Derived.Test.YtlehpgokjppccaaTfH
import Derived.Test.YtlehpgokjppccaaTfI
import Derived.Test.YtlehpgokjppccaaTfJ
import Derived.Test.YtlehpgokjppccaaTfK
import Derived.ArgAppend
import Derived.BigQuiet
import Derived.ChangeKeysEq
import Derived.ChangeOld
import Derived.Deep.DeepCutAuto
import Derived.Deep.Matrix
import Derived.Deep.MidRow
import Derived.Deep.QuietTactic
import Derived.Deep.RegionHeld3
import Derived.Deep.RegionLaw
import Derived.Deep.Slices
import Derived.Handy
import Derived.Laws.Externs
import Derived.Laws.ResultCell
import Derived.Lib.AppendStr
import Derived.Lib.Hide
import Derived.Lib.MakeNoZero
import Derived.Lib.SlBuf
import Derived.Lib.SliceRun
import Derived.Lib.SmallJoins
import Derived.Maps.AppendAt
import Derived.Maps.RangeWalk
import Derived.OpenShut
import Derived.ProofKit
import Derived.Shelf.SlIterI.Nil
import Derived.Shelf.SortM.Plain
import Derived.Shelf.SortM.SortNone
import Derived.ShutString
import Derived.SizedLaws
import Derived.Test.YtlehpgokjppccaaProg
import Derived.WalkKit
import Derived.WalkMore
import Derived.WalkSpells
namespace Go.Proofs.Ytlehpgokjppccaa
section
open Go.RowKit
set_option maxRecDepth 100000
set_option linter.unusedVariables false
set_option linter.unusedSimpArgs false
set_option linter.unnecessarySimpa false
/-- Laid over a list, byte by byte. -/
def setL (L : List Int) (o : Nat) : List Int → List Int
  | [] => L
  | x :: k => setL (L.set o x) (o + 1) k
theorem setL_eq : ∀ (k : List Int) (L : List Int) (o : Nat), o + k.length ≤ L.length → setL L o k = L.take o ++ (k ++ L.drop (o + k.length))
  | [], L, o, _ => by simp [setL]
  | x :: k, L, o, h => by
    have h' : o + (k.length + 1) ≤ L.length := by simpa using h
    rw [setL, setL_eq k (L.set o x) (o + 1) (by rw [List.length_set]; omega)]
    have e1 : (L.set o x).take (o + 1) = L.take o ++ [x] := by
      rw [List.take_succ_eq_append_getElem (by rw [List.length_set]; omega), List.getElem_set_self, List.take_set_of_le (Nat.le_refl _)]
    have e2 : (L.set o x).drop (o + 1 + k.length) = L.drop (o + 1 + k.length) := by rw [List.drop_set_of_lt (by omega)]
    rw [e1, e2, List.length_cons, show o + (k.length + 1) = o + 1 + k.length by omega]
    simp
theorem OwnB.sets {base g n c : Nat} : ∀ (k : List Int) {w : World} {L : List Int} (o : Nat), OwnB w base (some ⟨g, 0, none⟩) n c L → OwnB (w.setCells g o (vb k)) base (some ⟨g, 0, none⟩) n c (setL L o k)
  | [], _, _, _, h => h
  | x :: k, _, _, o, h => OwnB.sets k (o + 1) (h.stored o x)

def hdF (s z : Int) : Hd := ⟨s, 1, 0, 0, z, 0⟩
theorem hdF_good {s z : Int} (hs : isSize s) (hz : 0 ≤ z ∧ z ≤ 255) : (hdF s z).good := by
  have : s ≤ 4096 := by unfold isSize at hs; omega
  refine ⟨hs, ⟨?_, ?_, ?_⟩, ⟨?_, ?_, ?_, ?_⟩, ?_, ?_, ?_, ?_⟩ <;> simp [hdF] <;> omega
/-- A page of a seed. -/
def pageL (s : Nat) (z : Int) (no : Nat) : List Int := (headL (hdF s z) ++ List.replicate (s - 64) 0).set (s - 1) (no : Int)
theorem pageL_length {s : Nat} (h : 64 ≤ s) (z : Int) (no : Nat) : (pageL s z no).length = s := by simp [pageL, headL_length]; omega
theorem pageL_isB {s : Nat} {z : Int} {no : Nat} (hn : no ≤ 255) : IsB (pageL s z no) := by
  intro x hx
  rcases List.mem_or_eq_of_mem_set hx with hx | rfl
  · rcases List.mem_append.1 hx with hx | hx
    · exact headL_isB _ x hx
    · obtain rfl := List.eq_of_mem_replicate hx
      omega
  · omega
set_option maxHeartbeats 4000000 in
theorem framed_any (w : World) (s no : Nat) (z : Int) (hs : isSize (s : Int)) (hz : 0 ≤ z ∧ z ≤ 255) (hn : no ≤ 255) (R : Ending → World → Prop)
    (hR : R = fun e w' => ∃ A c, e = .returned (.slice A s c) ∧ OwnB w' w.heap.size A s c (pageL s z no) ∧ Below w.heap.size w w') :
    Calls Try.prog 35 #[.int .i64 (s : Int), .int .u8 z, .int .i64 (no : Int)] w R := by
  have HR := Lib.hid hR; clear hR
  have hsb : 256 ≤ s ∧ s ≤ 4096 := by unfold isSize at hs; omega
  have hgood := hdF_good hs hz
  have HEN := Lib.hid (encL_yes hgood)
  have HOK := Lib.hid (show (hdF (s : Int) z).ok from ⟨by unfold i64ok hdF; simp; omega, by unfold i64ok hdF; simp, by unfold i64ok hdF; simp, by unfold i64ok hdF; simp, by unfold i64ok hdF; simp; omega, by unfold i64ok hdF; simp⟩)
  have hwz : IntKind.i64.wrap z = z := IntWalk.i64_in _ (by omega)
  have hw1 : IntKind.i64.wrap ((s : Int) - 1) = (s : Int) - 1 := IntWalk.i64_in _ (by omega)
  have hwn : IntKind.u8.wrap (no : Int) = (no : Int) := by simp [IntKind.wrap, IntKind.bits, IntKind.signed]; omega
  have hmk := fun W => run_mk s s (Nat.le_refl _) (by omega) W
  clear hgood
  go_enter Try.func35, Try.ntmps35
  go_wp2_with fail
  refine (encode_any _ (hdF (s : Int) z) HOK.out).mono ?_
  rintro e w1 ⟨A, n, c, rfl, hown, hb1⟩
  rw [HEN.out] at hown
  obtain rfl : 64 = n := by rw [← hown.len]; exact (headL_length _).symm
  have HO1 := Lib.hid hown
  have HB1 := Lib.hid hb1
  clear hown hb1
  obtain ⟨g, hg⟩ : ∃ g, w1.heap.size = g := ⟨_, rfl⟩
  have HG := Lib.hid hg
  clear hg
  go_upto_region 3 with fail
  obtain ⟨W2, hW2⟩ : ∃ W, W = w1.alloc (.cells (zrs s) 5) := ⟨_, rfl⟩
  have hb12 : Below w1.heap.size w1 W2 := by rw [hW2]; exact (Below.refl _ _).alloc (Nat.le_refl _) _
  have HZ2 := Lib.hid (show OwnB W2 w1.heap.size (some ⟨w1.heap.size, 0, none⟩) s s (List.replicate s 0) by rw [hW2]; exact OwnB.zeros w1 w1.heap.size s (Nat.le_refl _) (by unfold maxLen; omega))
  have HO2 := Lib.hid (HO1.out.keep hb12)
  have HB2 := Lib.hid (HB1.out.trans (hb12.mono HB1.out.size))
  rw [← hW2]
  clear hW2 hb12
  have hgb := HB1.out.size
  rw [HG.out] at HZ2 hgb ⊢
  obtain ⟨gA, hAe, _, _⟩ := HO2.out.at (by omega)
  subst hAe
  obtain ⟨hd, hhd⟩ : ∃ x, headL (hdF (s : Int) z) = x := ⟨_, rfl⟩
  have HHD := Lib.hid hhd
  have hlen : hd.length = 64 := by rw [← hhd]; exact headL_length _
  rw [hhd] at HO2
  have hcr := run_copy_cells (P := Try.prog) W2 24 24 3 5 g 0 s s ⟨gA, 0, none⟩ 64 c (vb hd) Try.underlying24 size_u8 (by rw [vb_length, hlen]; exact (Nat.min_eq_left (by omega)).symm)
    (fun j u hu => by obtain ⟨hj, rfl⟩ := vb_get hu; rw [Addr.add_lit, Nat.zero_add]; exact HO2.out.cellAt j (by omega))
    (fun j hj => by rw [vb_length, hlen] at hj; rw [Nat.zero_add, HZ2.out.cellAt j (by omega)]; rfl) (fun j hj => by rw [Nat.zero_add]; exact HZ2.out.frozenAt j) (vb_one hd)
  have HZ3 := Lib.hid (HZ2.out.sets hd 0)
  rw [setL_eq _ _ _ (by rw [hlen, List.length_replicate]; omega), List.take_zero, List.nil_append, Nat.zero_add, hlen, List.drop_replicate] at HZ3
  have HB3 := Lib.hid (below_setCells HB2.out hgb 0 (vb hd))
  iterate 7 go_step
  refine Lib.wpList_copy_run _ rfl (.tmp 20) (.tmp 21) 24 24 rfl _ _ rfl rfl hcr ?_
  obtain ⟨W3, hW3⟩ : ∃ W, W = W2.setCells g 0 (vb hd) := ⟨_, rfl⟩
  rw [← hW3] at HZ3 HB3 ⊢
  clear hW3 hcr HZ2
  have m0 := HZ3.out.cellAt (s - 1) (by omega)
  have f0 := HZ3.out.frozenAt (s - 1)
  have hnat : ((s : Int) - 1).toNat = s - 1 := by omega
  have i0 : (0 : Int) ≤ (s : Int) - 1 := by omega
  have i1 : (s : Int) - 1 < (s : Int) := by omega
  have HE := Lib.hid (show OwnB (W3.setCell ⟨g, s - 1, none⟩ (.int .u8 (no : Int))) w.heap.size (some ⟨g, 0, none⟩) s s (pageL s z no) by
    have := (HZ3.out.stored (s - 1) (no : Int)).mono hgb
    rw [← HHD.out] at this
    exact this)
  have HBE := Lib.hid (HB3.out.setCell (p := ⟨g, s - 1, none⟩) hgb (.int .u8 (no : Int)))
  go_wp2
  rw [HR.out]
  exact ⟨_, _, rfl, HE.out, HBE.out⟩
end
section
open Go.RowKit
set_option maxRecDepth 100000
set_option linter.unusedVariables false
set_option linter.unusedSimpArgs false
set_option linter.unnecessarySimpa false
def jF (s : Nat) (l : List Int) (i : Nat) : Fr := ⟨(i : Int) + 1, 0, pageL s (bt l i) i⟩
def wF (s : Nat) (l : List Int) (i : Nat) : Fr := ⟨(i : Int) + 1, (i : Int) + 1, pageL s (bt l i) i⟩
def jFs (s : Nat) (l : List Int) (j : Nat) : List Fr := (List.range j).map (jF s l)
def wFs (s : Nat) (l : List Int) (j : Nat) : List Fr := (List.range j).map (wF s l)
theorem jFs_succ (s : Nat) (l : List Int) (j : Nat) : jFs s l (j + 1) = jFs s l j ++ [jF s l j] := by simp [jFs, List.range_succ]
theorem wFs_succ (s : Nat) (l : List Int) (j : Nat) : wFs s l (j + 1) = wFs s l j ++ [wF s l j] := by simp [wFs, List.range_succ]
theorem jFs_len (s : Nat) (l : List Int) (j : Nat) : (jFs s l j).length = j := by simp [jFs]
theorem wFs_len (s : Nat) (l : List Int) (j : Nat) : (wFs s l j).length = j := by simp [wFs]
theorem jFs_at {s : Nat} {l : List Int} {i j : Nat} (h : i < j) : fr_ (jFs s l j) i = jF s l i := by rw [fr_lt (by rw [jFs_len]; exact h)]; simp [jFs]
theorem wFs_at {s : Nat} {l : List Int} {i j : Nat} (h : i < j) : fr_ (wFs s l j) i = wF s l i := by rw [fr_lt (by rw [wFs_len]; exact h)]; simp [wFs]
theorem jFs_take {s : Nat} {l : List Int} {k q : Nat} (h : k ≤ q) : (jFs s l q).take k = jFs s l k := by rw [jFs, ← List.map_take, List.take_range, Nat.min_eq_left h]; rfl
theorem wFs_take {s : Nat} {l : List Int} {k q : Nat} (h : k ≤ q) : (wFs s l q).take k = wFs s l k := by rw [wFs, ← List.map_take, List.take_range, Nat.min_eq_left h]; rfl
theorem jFs_ok {s : Nat} {l : List Int} {j : Nat} (hs : 64 ≤ s) (hj : j ≤ 12) : ∀ f ∈ jFs s l j, okF s f := by
  intro f hf
  obtain ⟨i, hi, rfl⟩ := List.mem_map.1 hf
  have hi' : i < j := by simpa using hi
  exact ⟨by simp [jF]; omega, by simp [jF]; omega, rfl, pageL_length hs _ _, pageL_isB (by omega)⟩
theorem wFs_ok {s : Nat} {l : List Int} {j : Nat} (hs : 64 ≤ s) (hj : j ≤ 12) : ∀ f ∈ wFs s l j, okW s f := by
  intro f hf
  obtain ⟨i, hi, rfl⟩ := List.mem_map.1 hf
  have hi' : i < j := by simpa using hi
  exact ⟨by simp [wF]; omega, by simp [wF]; omega, by simp [wF]; omega, by simp [wF]; omega, pageL_length hs _ _, pageL_isB (by omega)⟩
theorem jour_snoc (s p k : Int) (F : List Fr) (f : Fr) : jourL s p k (F ++ [f]) = jourL s p k F ++ entH k f.pg f.b := by
  rw [jourL, entsL_append, jourL, List.append_assoc]; simp [entsL]
theorem wlog_snoc (s k : Int) (F : List Fr) (f : Fr) : wlog s k (F ++ [f]) = wlog s k F ++ wEnt (wLast (nextI k (whL s k)) F) f.pg f.cm f.b := by
  rw [wlog, wEnts_snoc, wlog, List.append_assoc]
theorem wlog_length {s : Nat} (k : Int) {F : List Fr} (h : ∀ f ∈ F, f.b.length = s) : (wlog s k F).length = 20 + F.length * (s + 16) := by
  rw [wlog, List.length_append, whL_length, wEnts_length _ h]
theorem wlog_isB {s k : Int} {F : List Fr} (h : ∀ f ∈ F, IsB f.b) : IsB (wlog s k F) := isB_append (whL_isB _ _) (wEnts_isB _ h)
theorem jour_length {s : Nat} (p k : Int) {F : List Fr} (h : ∀ f ∈ F, okF s f) : (jourL s p k F).length = 28 + F.length * (s + 8) := by
  rw [jourL, List.length_append, startH_length, entsL_length h]
theorem jour_isB {s : Nat} {p k : Int} {F : List Fr} (h : ∀ f ∈ F, okF s f) : IsB (jourL s p k F) := isB_append (startH_isB _ _ _) (entsL_isB h)
/-- A log that was cut. -/
theorem wlog_cut {s : Nat} {k : Int} (hs : isSize (s : Int)) (hk : 0 ≤ k ∧ k ≤ 18446744073709551615) (l : List Int) {q n part : Nat} (hq : q ≤ 12) (hn : n ≤ q) (hp : part < s + 16) :
    ∃ t, LogIs ((wlog s k (wFs s l q)).take (20 + n * (s + 16) + part)) s k (wFs s l n) t := by
  have h64 : 64 ≤ s := by unfold isSize at hs; omega
  have hok := wFs_ok (l := l) h64 (show n ≤ 12 by omega)
  have hL : (whL s k ++ wEnts (nextI k (whL s k)) (wFs s l n)).length = 20 + n * (s + 16) := by
    rw [List.length_append, whL_length, wEnts_length _ (s := s) (fun f hf => (hok f hf).2.2.2.2.1), wFs_len]
  have e : wlog s k (wFs s l q) = (whL s k ++ wEnts (nextI k (whL s k)) (wFs s l n)) ++ wEnts (wLast (nextI k (whL s k)) (wFs s l n)) ((wFs s l q).drop n) := by
    rw [wlog]
    conv => lhs; rw [← List.take_append_drop n (wFs s l q), wFs_take hn, wEnts_append]
    rw [List.append_assoc]
  refine ⟨(wEnts (wLast (nextI k (whL s k)) (wFs s l n)) ((wFs s l q).drop n)).take part, ?_, hok, ?_, hs, hk⟩
  · rw [e, List.take_append, hL, List.take_of_length_le (by rw [hL]; omega), show 20 + n * (s + 16) + part - (20 + n * (s + 16)) = part by omega, List.append_assoc]
  · rw [List.length_take]; omega
theorem wlog_none {s : Nat} {k : Int} (hs : isSize (s : Int)) (hk : 0 ≤ k ∧ k ≤ 18446744073709551615) : LogIs (whL s k) s k [] [] :=
  ⟨by simp [wEnts], (fun f hf => (by cases hf)), (by simp), hs, hk⟩
/-- A journal that was cut. -/
theorem jour_cut2 {s : Nat} {k : Int} (hs : isSize (s : Int)) (hk : 0 ≤ k ∧ k ≤ 18446744073709551615) (l : List Int) {q n part : Nat} (hq : q ≤ 12) (hn : n ≤ q) (hp : part < s + 8) :
    scanL ((jourL s 1 k (jFs s l q)).take (28 + (n * (s + 8) + part))) = ⟨s, 1, k, jFs s l n, 0⟩ := by
  have h64 : 64 ≤ s := by unfold isSize at hs; omega
  have hso : okStart (s : Int) 1 := ⟨hs, by omega, by omega, by unfold isSize at hs; omega⟩
  have hd : (n * (s + 8) + part) / (s + 8) = n := by
    rw [Nat.mul_comm, Nat.mul_add_div (by omega), Nat.div_eq_of_lt hp, Nat.add_zero]
  have := jour_cut (s := (s : Int)) (p := 1) hso hk (F := jFs s l q) (by rw [Int.toNat_natCast]; exact jFs_ok h64 hq) (n * (s + 8) + part)
  rw [Int.toNat_natCast, hd, jFs_take hn] at this
  exact this
/-- A page's head is read as it was. -/
theorem page_head {s : Nat} {z : Int} (no : Nat) (hs : isSize (s : Int)) (hz : 0 ≤ z ∧ z ≤ 255) : ∃ m, pageL s z no = headL (hdF s z) ++ m := by
  have h256 : 256 ≤ s := by unfold isSize at hs; omega
  refine ⟨(List.replicate (s - 64) 0).set (s - 1 - 64) (no : Int), ?_⟩
  unfold pageL
  rw [List.set_append_right _ _ (by rw [headL_length]; omega), headL_length]
theorem page_dec {s : Nat} {z : Int} (no : Nat) (hs : isSize (s : Int)) (hz : 0 ≤ z ∧ z ≤ 255) : decL (pageL s z no) = (hdF s z, 0) ∧ (pageL s z no).take 16 = signL ∧ (readH (pageL s z no)).good := by
  obtain ⟨m, hm⟩ := page_head no hs hz
  have hg := hdF_good hs hz
  rw [hm]
  exact ⟨decL_back hg m, head_sign _ _, by rw [head_read hg]; exact hg⟩
/-- What Seal made, Sealed takes. -/
theorem seal_is (l : List Int) : beqL [sumI ((sealL l).take l.length) % 256, sumI ((sealL l).take l.length) / 256 % 256, sumI ((sealL l).take l.length) / 65536 % 256, sumI ((sealL l).take l.length) / 16777216]
    [bt (sealL l) l.length, bt (sealL l) (l.length + 1), bt (sealL l) (l.length + 2), bt (sealL l) (l.length + 3)] = true := by
  rw [beqL_iff]
  have e : (sealL l).take l.length = l := List.take_left' rfl
  rw [e]
  simp [sealL, bt, List.getElem?_append_right]

theorem wf_u16b {n : Int} (h : (Lit.int .u16 n).wf = true) : 0 ≤ n ∧ n ≤ 65535 := by
  simp [Lit.wf, IntKind.min, IntKind.max, IntKind.signed, IntKind.bits] at h
  omega

def ChgB (w : World) (A : Option Addr) (w' : World) : Prop := ∀ i, i < w.heap.size → (∀ a, A = some a → a.block ≠ i) → w'.heap[i]? = w.heap[i]?
theorem Rd.chg {w w' : World} {A B : Option Addr} {l : List Int} (h : Rd w B l) (hc : ChgB w A w') (hn : ∀ a b, A = some a → B = some b → a.block ≠ b.block) : Rd w' B l := by
  rcases h with rfl | ⟨b, off, rfl, hh⟩
  · exact .inl rfl
  · refine .inr ⟨b, off, rfl, fun i hi => ?_⟩
    have hl := World.block_lt_of_cell? w ⟨b, off + i, none⟩ (hh i hi)
    have e := hc b hl (fun a ha => hn a _ ha rfl)
    rw [← hh i hi]
    unfold World.cell?
    rw [e]
theorem OwnB.chg {w w' : World} {A B : Option Addr} {base n c : Nat} {l : List Int} (h : OwnB w base B n c l) (hc : ChgB w A w') (hn : ∀ a b, A = some a → B = some b → a.block ≠ b.block) : OwnB w' base B n c l := by
  refine ⟨h.1, ?_⟩
  rcases h.2 with hv | ⟨g, cap, cur, hv, hbg, hgg, rest⟩
  · exact .inl hv
  · have e1 : B = some ⟨g, 0, none⟩ := by injection hv
    exact .inr ⟨g, cap, cur, hv, hbg, (hc g (Array.getElem?_eq_some_iff.1 hgg).1 (fun a ha => hn a _ ha e1)).trans hgg, rest⟩
/-- A row of the call's own, or one that is full. -/
structure AppB (w : World) (base : Nat) (A : Option Addr) (n c : Nat) (l : List Int) : Prop where
  len : l.length = n
  pos : 1 ≤ n
  cap : n ≤ c
  most : c ≤ maxLen
  rd : Rd w A l
  own : OwnB w base A n c l ∨ c = n
theorem AppB.of {w : World} {base n c : Nat} {A : Option Addr} {l : List Int} (h : OwnB w base A n c l) (hp : 1 ≤ n) : AppB w base A n c l := ⟨h.len, hp, h.cap.1, h.cap.2, h.rd, .inl h⟩
theorem AppB.keep {w w' : World} {base n c : Nat} {A : Option Addr} {l : List Int} (h : AppB w base A n c l) (hb : Below w.heap.size w w') : AppB w' base A n c l := ⟨h.len, h.pos, h.cap, h.most, h.rd.keep hb, h.own.imp (fun x => x.keep hb) id⟩
theorem AppB.chg {w w' : World} {base n c : Nat} {A B : Option Addr} {l : List Int} (h : AppB w base B n c l) (hc : ChgB w A w') (hn : ∀ a b, A = some a → B = some b → a.block ≠ b.block) : AppB w' base B n c l := ⟨h.len, h.pos, h.cap, h.most, h.rd.chg hc hn, h.own.imp (fun x => x.chg hc hn) id⟩
theorem AppB.blk {w : World} {base n c : Nat} {A : Option Addr} {l : List Int} (h : AppB w base A n c l) : ∀ a, A = some a → a.block < w.heap.size := by
  intro a ha
  obtain ⟨b, off, hA, hl, _⟩ := h.rd.at (by rw [h.len]; exact h.pos)
  rw [ha] at hA
  injection hA with hA
  subst hA
  exact hl
theorem wp_append_two {ops : Array Oper} {rest : List Oper} {o : Oper} {a : Act} {w : World} {Q : Exit → Act → World → Prop} (hgd : o.guard = none) (s x : Operand)
    (ho : o.op = .call { callee := .builtin .append, args := #[s, x], argTypes := #[24, 24] })
    (base : Nat) (A : Option Addr) (n c : Nat) (l : List Int) (hs : a.eval s = .slice A n c) (hA : AppB w base A n c l) (B : Option Addr) (m d : Nat) (k : List Int) (hx : a.eval x = .slice B m d) (hk : k.length = m) (hm : 1 ≤ m) (hr : Rd w B k) (hbytes : n + m ≤ 140737488355328) (hbase : base ≤ w.heap.size)
    (h : ∀ A' c' w', AppB w' base A' (n + m) c' (l ++ k) → ChgB w A w' → (∀ a', A' = some a' → (∃ a, A = some a ∧ a.block = a'.block) ∨ w.heap.size ≤ a'.block) → Below base w w' → wpList Try.prog ops Q rest (a.put o.dst (.slice A' (n + m) c')) w') : wpList Try.prog ops Q (o :: rest) a w := by
  have hout : ∃ A' c' w', (Builtin.append_ #[24, 24] o.type #[.slice A n c, .slice B m d]).run Try.prog w = .ok (.slice A' (n + m) c') w' ∧ AppB w' base A' (n + m) c' (l ++ k) ∧ ChgB w A w' ∧ (∀ a', A' = some a' → (∃ a, A = some a ∧ a.block = a'.block) ∨ w.heap.size ≤ a'.block) ∧ Below base w w' := by
    rcases hA.own with hown | rfl
    · obtain ⟨A', c', w', hrun, h2, h3, h5⟩ := run_append_bytes w base A n c l hown B m d k hk hr hbytes hbase o.type
      have hb : Below base w w' := (Below.refl _ _).grown h3 hbase (fun k hk => (World.ownsRow.lt hown k hk).1)
      refine ⟨A', c', w', hrun, AppB.of h2 (by omega), fun i hi hn => h3.block i hi (fun e => ?_), fun a' ha' => ?_, hb⟩
      · cases A with
        | none => simp [Value.ownBlock] at e
        | some a => simp only [Value.ownBlock, Option.some.injEq] at e; exact hn a rfl e.symm
      · subst ha'
        rcases h5 with h5 | h5
        · cases A with
          | none => simp [Value.ownBlock] at h5
          | some a => simp only [Value.ownBlock, Option.some.injEq] at h5; exact .inl ⟨a, rfl, h5.symm⟩
        · simp only [Value.ownBlock, Option.some.injEq] at h5; exact .inr (by omega)
    · obtain ⟨A', c', w', hrun, h2, hb⟩ := run_append_full w A c c l hA.len hA.pos hA.cap hA.rd B m d k hk hr (by omega) hbytes o.type
      refine ⟨A', c', w', hrun, AppB.of (h2.mono hbase) (by omega), fun i hi _ => hb.block i hi, fun a' ha' => .inr ?_, hb.mono hbase⟩
      subst ha'
      rcases h2.2 with ⟨hv, _⟩ | ⟨g, cap, cur, hv, hbg, _⟩
      · cases hv
      · have e1 : some a' = some (⟨g, 0, none⟩ : Addr) := by injection hv
        injection e1 with e1
        subst e1
        exact hbg
  obtain ⟨A', c', w', hrun, h2, h3, h4, h5⟩ := hout
  refine wpList_plain hgd fun K hK => ?_
  unfold Oper.wp execOp
  simp only [ho, resolve, invoke, builtin, Sem.run_bind, Sem.run_pure, Result.andThen_ok, List.map_toArray, List.map_cons, List.map_nil, hs, hx, hrun]
  exact hK _ _ (h A' c' w' h2 h3 h4 h5)
end
end Go.Proofs.Ytlehpgokjppccaa
