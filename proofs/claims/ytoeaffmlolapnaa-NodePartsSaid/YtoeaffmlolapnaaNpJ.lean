/- Several texts of this proof as one: SlA, SlB, SlM, SlC, SlN, SlO, SlD, SlE, SlF, SlX. Laid by merge.py. -/
import Derived.Test.YtoeaffmlolapnaaNpA
import Derived.Test.YtoeaffmlolapnaaNpB
import Derived.ArgAppend
import Derived.BigQuiet
import Derived.Deep.DeepCutAuto
import Derived.Deep.MidRow
import Derived.Deep.QuietTactic
import Derived.Deep.RegionHeld3
import Derived.Handy
import Derived.Laws.CopyOwn
import Derived.Laws.ResultCell
import Derived.Lib.AppendStr
import Derived.Lib.Hide
import Derived.Lib.SliceRun
import Derived.Maps.AppendAt
import Derived.Test.YtoeaffmlolapnaaProg
import Derived.WalkKit
import Derived.WalkSpells
namespace Go.Proofs.Ytoeaffmlolapnaa
section
open Go.RowKit
set_option maxRecDepth 100000
set_option linter.unusedVariables false
set_option linter.unusedSimpArgs false
set_option linter.unnecessarySimpa false
set_option maxHeartbeats 4000000 in
theorem pnum_any (w : World) (g gb c h : Nat) (L : List Int) (X : List Value) (hp : Pg w g gb c h L X) (i : Nat) (hi : i + 2 ≤ L.length) :
    Calls Try.prog 104 #[.pointer (some ⟨g, 0, none⟩), .int .i64 (i : Int)] w fun e w' => e = .returned (.int .i64 (tw L i)) ∧ w = w' := by
  have m0 := hp.m0
  have HP := Lib.hid hp
  have HR := Lib.hid (read2 hp.byts hi)
  obtain ⟨t, ht⟩ : ∃ t, tw L i = t := ⟨_, rfl⟩
  have hbd := tw_bd hp.byts i
  have hlc := hp.len
  rw [ht] at HR hbd ⊢
  have ht0 : IntKind.i64.wrap t = t := IntWalk.i64_in _ (by omega)
  have hi2 : -9223372036854775808 ≤ (i : Int) ∧ (i : Int) ≤ 9223372036854775807 := by omega
  clear ht hp
  go_enter Try.func104, Try.ntmps104
  go_wp2_with fail
  refine (read_any _ (some ⟨gb, 0, none⟩) L.length c L (i : Int) 2 rfl hlc.1 HP.out.most HP.out.rd HP.out.byts hi2).mono ?_
  rintro e w1 ⟨rfl, rfl⟩
  simp only [HR.out]
  go_wp2_with fail
  go_ret
  exact ⟨rfl, rfl⟩

set_option maxHeartbeats 4000000 in
theorem pmany_any (w : World) (g gb c h : Nat) (L : List Int) (X : List Value) (hp : Pg w g gb c h L X) (hi : h + 2 ≤ L.length) :
    Calls Try.prog 61 #[.pointer (some ⟨g, 0, none⟩)] w fun e w' => e = .returned (.int .i64 (tw L h)) ∧ w = w' := by
  have m1 := hp.m1
  have HP := Lib.hid hp
  clear hp
  go_enter Try.func61, Try.ntmps61
  go_wp2_with fail
  refine (pnum_any _ g gb c h L X HP.out h hi).mono ?_
  rintro e w1 ⟨rfl, rfl⟩
  go_wp2_with fail
  go_ret
  exact ⟨rfl, rfl⟩

set_option maxHeartbeats 4000000 in
theorem pslot_any (w : World) (g gb c h : Nat) (L : List Int) (X : List Value) (hp : Pg w g gb c h L X) (hh : h ≤ 64) (i : Int) (i0 : -70000 ≤ i) (i1 : i ≤ 70000) :
    Calls Try.prog 68 #[.pointer (some ⟨g, 0, none⟩), .int .i64 i] w fun e w' => e = .returned (.int .i64 ((h : Int) + 2 + 2 * i)) ∧ w = w' := by
  have m1 := hp.m1
  clear hp
  go_enter Try.func68, Try.ntmps68
  go_wp2_with fail
  go_ret
  exact ⟨rfl, rfl⟩

set_option maxHeartbeats 4000000 in
theorem pspan_any (w : World) (g gb c h : Nat) (L : List Int) (X : List Value) (hp : Pg w g gb c h L X) (hh : h ≤ 64) (i q : Nat) (h1 : h + 2 + 2 * i + 2 ≤ L.length) (hL : L.length ≤ 4096) (hq : tw L (h + 2 + 2 * i) = (q : Int)) (h2 : q + 2 ≤ L.length) :
    Calls Try.prog 62 #[.pointer (some ⟨g, 0, none⟩), .int .i64 (i : Int)] w fun e w' => e = .returned (.tuple #[.int .i64 ((q : Int) + 2), .int .i64 ((q : Int) + 2 + tw L q)]) ∧ w = w' := by
  have HP := Lib.hid hp
  have HQ := Lib.hid hq
  have hbd := tw_bd hp.byts q
  clear hp hq
  have i1 : (i : Int) ≤ 70000 := by omega
  go_enter Try.func62, Try.ntmps62
  go_wp2_with fail
  refine (pslot_any _ g gb c h L X HP.out hh (i : Int) (by omega) i1).mono ?_
  rintro e w1 ⟨rfl, rfl⟩
  have e1 : (h : Int) + 2 + 2 * (i : Int) = ((h + 2 + 2 * i : Nat) : Int) := by omega
  rw [e1]
  clear e1
  go_wp2_with fail
  refine (pnum_any _ g gb c h L X HP.out (h + 2 + 2 * i) h1).mono ?_
  rintro e w1 ⟨rfl, rfl⟩
  rw [HQ.out]
  go_wp2_with fail
  refine (pnum_any _ g gb c h L X HP.out q h2).mono ?_
  rintro e w1 ⟨rfl, rfl⟩
  go_wp2_with fail
  go_ret2
  exact ⟨rfl, rfl⟩

theorem run_copy_pg (w : World) (gb lo dLen dCap c : Nat) (L cs : List Int) (X : List Value) (hr : Row w gb L X) (hc : L.length + X.length = c) (hd : lo + dLen ≤ L.length) (sp : Option Addr) (sLen sCap : Nat) (hs : cs.length = sLen) (hle : sLen ≤ dLen) (hrd : Rd w sp cs) (ty : TypeId) :
    ∃ w', (Builtin.copy_ #[29, 29] ty #[.slice (cutA (some ⟨gb, 0, none⟩) c lo) dLen dCap, .slice sp sLen sCap]).run Try.prog w = .ok (goInt cs.length) w' ∧ Row w' gb (splice L lo cs) X ∧ Mut w gb w' := by
  have hsz : (Try.prog.info? 5).map (·.size) = some 1 := by kernel_rfl
  rcases hrd with rfl | ⟨b, off, rfl, hcell⟩
  · have h0 : sLen = 0 := by simpa using hs.symm
    subst h0
    exact ⟨w, run_copy_none (P := Try.prog) w _ _ ty _ _ _ _ _ _ _ Try.underlying29 hsz (by simp), by rw [splice_nil]; exact hr, Mut.refl _ _⟩
  · by_cases h0 : cs.length = 0
    · obtain rfl : cs = [] := List.eq_nil_of_length_eq_zero h0
      have h0 : sLen = 0 := by simpa using hs.symm
      subst h0
      exact ⟨w, run_copy_none (P := Try.prog) w _ _ ty _ _ _ _ _ _ _ Try.underlying29 hsz (by simp), by rw [splice_nil]; exact hr, Mut.refl _ _⟩
    have hcut : cutA (some ⟨gb, 0, none⟩) c lo = some ⟨gb, lo, none⟩ := by
      unfold cutA
      rw [if_neg (by omega)]
      simp [Addr.add_lit]
    rw [hcut]
    have hrun := run_copy_row Try.prog w 29 29 ty 5 gb lo dLen dCap ⟨b, off, none⟩ sLen sCap (vb L ++ X).toArray 5 (vb cs) Try.underlying29 hsz hr (by rw [vb_length, hs]; exact (Nat.min_eq_left hle).symm)
      (fun j v hv => by
        obtain ⟨hj, rfl⟩ := vb_get hv
        rw [Addr.add_lit]
        exact hcell j hj) (by simp [vb_length]; omega) (vb_one cs)
    refine ⟨_, by rw [hrun, vb_length cs], ?_, Mut.row _ _ _⟩
    have h2 := setRow_heap w gb _ ((vb L ++ X).toArray.toList.take lo ++ vb cs ++ (vb L ++ X).toArray.toList.drop (lo + cs.length)).toArray _ _ hr
    unfold Row
    rw [h2]
    congr 3
    rw [← vb_splice L cs X lo (by omega)]
    simp [splice, vb_length]

theorem step_copy_pg {ops : Array Oper} {o : Oper} {a : Act} {w : World} {K : Act → World → Prop} {Q : Exit → Act → World → Prop} {E : Prop} (hgd : o.guard = none) (d s : Operand)
    (ho : o.op = .call { callee := .builtin .copy, args := #[d, s], argTypes := #[29, 29] })
    (gb lo dLen dCap c : Nat) (L cs : List Int) (X : List Value) (hdv : a.eval d = .slice (cutA (some ⟨gb, 0, none⟩) c lo) dLen dCap) (hr : Row w gb L X) (hc : L.length + X.length = c) (hd : lo + dLen ≤ L.length) (sp : Option Addr) (sLen sCap : Nat) (hsv : a.eval s = .slice sp sLen sCap) (hs : cs.length = sLen) (hle : sLen ≤ dLen) (hrd : Rd w sp cs)
    (h : ∀ w', Row w' gb (splice L lo cs) X → Mut w gb w' → K (a.put o.dst (goInt cs.length)) w') :
    if Region.wanted o (yielded ops a.tmps) = true then Oper.wp Try.prog o a w K Q else E := by
  have hw : Region.wanted o (yielded ops a.tmps) = true := by simp [Region.wanted, hgd]
  rw [if_pos hw]
  obtain ⟨w', hrun, h1, h2⟩ := run_copy_pg w gb lo dLen dCap c L cs X hr hc hd sp sLen sCap hs hle hrd o.type
  unfold Oper.wp execOp
  simp only [ho, resolve, invoke, builtin, Sem.run_bind, Sem.run_pure, Result.andThen_ok, List.map_toArray, List.map_cons, List.map_nil, hdv, hsv, hrun]
  exact h w' h1 h2
theorem wp_copy_pg {ops : Array Oper} {rest : List Oper} {o : Oper} {a : Act} {w : World} {Q : Exit → Act → World → Prop} (hgd : o.guard = none) (d s : Operand)
    (ho : o.op = .call { callee := .builtin .copy, args := #[d, s], argTypes := #[29, 29] })
    (gb lo dLen dCap c : Nat) (L cs : List Int) (X : List Value) (hdv : a.eval d = .slice (cutA (some ⟨gb, 0, none⟩) c lo) dLen dCap) (hr : Row w gb L X) (hc : L.length + X.length = c) (hd : lo + dLen ≤ L.length) (sp : Option Addr) (sLen sCap : Nat) (hsv : a.eval s = .slice sp sLen sCap) (hs : cs.length = sLen) (hle : sLen ≤ dLen) (hrd : Rd w sp cs)
    (h : ∀ w', Row w' gb (splice L lo cs) X → Mut w gb w' → wpList Try.prog ops Q rest (a.put o.dst (goInt cs.length)) w') : wpList Try.prog ops Q (o :: rest) a w := by
  obtain ⟨w', hrun, h1, h2⟩ := run_copy_pg w gb lo dLen dCap c L cs X hr hc hd sp sLen sCap hs hle hrd o.type
  refine wpList_plain hgd fun K hK => ?_
  unfold Oper.wp execOp
  simp only [ho, resolve, invoke, builtin, Sem.run_bind, Sem.run_pure, Result.andThen_ok, List.map_toArray, List.map_cons, List.map_nil, hdv, hsv, hrun]
  exact hK _ _ (h w' h1 h2)
end
section
open Go.RowKit
set_option maxRecDepth 100000
set_option linter.unusedVariables false
set_option linter.unusedSimpArgs false
set_option linter.unnecessarySimpa false
theorem fixed2 (w : World) (v : Int) (h0 : 0 ≤ v) (h1 : v ≤ 65535) :
    Calls Try.prog 105 #[.int .u64 v, .int .i64 2] w (BytesBack w (fxL v 2)) := by
  have h := fixed_any w v 2 h0 (by omega)
  have e := fixed_nat v 2 (by omega) (by omega)
  rw [show ((2 : Nat) : Int) = 2 from rfl] at e
  rwa [e] at h
/-- A page whose bytes are these now. -/
def PgBack (g gb c h : Nat) (X : List Value) (w : World) (L : List Int) (w' : World) : Prop := Pg w' g gb c h L X ∧ Mut w gb w'

set_option maxHeartbeats 4000000 in
theorem pset_any (w : World) (g gb c h : Nat) (L : List Int) (X : List Value) (hp : Pg w g gb c h L X) (i : Nat) (v : Int) (hi : i + 2 ≤ L.length) (v0 : 0 ≤ v) (v1 : v ≤ 65535) :
    Calls Try.prog 70 #[.pointer (some ⟨g, 0, none⟩), .int .i64 (i : Int), .int .i64 v] w fun e w' => e = .returned (.tuple #[]) ∧ PgBack g gb c h X w (splice L i (fxL v 2)) w' := by
  have HP := Lib.hid hp
  have hlc := hp.len
  have hw : IntKind.u64.wrap v = v := by rw [IntKind.wrap_u64]; omega
  have K0 : ∀ W : World, Mut w gb W → W.cell? ⟨g, 0, none⟩ = some (.slice (some ⟨gb, 0, none⟩) L.length c) := fun W hW => heap_cell ((hW.block g HP.out.lt.1 HP.out.ne).trans HP.out.head)
  have hcut := run_cut_from (some ⟨gb, 0, none⟩) L.length c i (by omega)
  have hf : (fxL v 2).length = 2 := fxL_length v 2
  have HF := Lib.hid hf
  clear hp hf
  obtain ⟨D, hD⟩ : ∃ D, cutA (some ⟨gb, 0, none⟩) c i = D := ⟨_, rfl⟩
  have HD := Lib.hid hD
  rw [hD] at hcut
  clear hD
  go_enter Try.func70, Try.ntmps70
  go_upto_region 0 with fail
  refine wp_region_held_drew (S := (fun W => Mut w gb W)) (by kernel_rfl) ?_ (fun hHeld => ?_)
  · exact (Mut.refl w gb).drew
  refine' wpAnyH_take (i := 0) (oi := _) (v := _) rfl (by kernel_rfl) (by kernel_rfl) (by kernel_rfl) (fun _ _ _ h => h) (Or.inl ⟨by rfl, ?hz1⟩) (by assumption) ?rezt1
  case hz1 => (intro w' hSw; (try dsimp only at hSw); go_simp; try with_reducible rfl)
  try simp only [Act.put, List.setIfInBounds_toArray, List.set_cons_zero, List.set_cons_succ, List.getElem_toArray, List.getElem_cons_zero, List.getElem_cons_succ]
  refine' wpAnyH_take (i := 1) (oi := _) (v := _) rfl (by kernel_rfl) (by kernel_rfl) (by kernel_rfl) (fun _ _ _ h => h) (Or.inl ⟨by rfl, ?hz2⟩) (by assumption) ?rezt2
  case hz2 => (intro w' hSw; (try dsimp only at hSw); go_simp; try with_reducible rfl)
  try simp only [Act.put, List.setIfInBounds_toArray, List.set_cons_zero, List.set_cons_succ, List.getElem_toArray, List.getElem_cons_zero, List.getElem_cons_succ]
  refine' wpAnyH_take (i := 2) (oi := _) (v := _) rfl (by kernel_rfl) (by kernel_rfl) (by kernel_rfl) (fun _ _ _ h => h) (Or.inl ⟨by rfl, ?hz3⟩) (by assumption) ?rezt3
  case hz3 => (intro w' hSw; (try dsimp only at hSw); go_simp; try with_reducible rfl)
  try simp only [Act.put, List.setIfInBounds_toArray, List.set_cons_zero, List.set_cons_succ, List.getElem_toArray, List.getElem_cons_zero, List.getElem_cons_succ]
  refine' wpAnyH_take (i := 3) (oi := _) (v := _) rfl (by kernel_rfl) (by kernel_rfl) (by kernel_rfl) (fun _ _ _ h => h) (Or.inl ⟨by rfl, ?hz4⟩) (by assumption) ?rezt4
  case hz4 => (intro w' hSw; (try dsimp only at hSw); go_simp; try with_reducible rfl)
  try simp only [Act.put, List.setIfInBounds_toArray, List.set_cons_zero, List.set_cons_succ, List.getElem_toArray, List.getElem_cons_zero, List.getElem_cons_succ]
  refine' wpAnyH_take (i := 4) (oi := _) (v := _) rfl (by kernel_rfl) (by kernel_rfl) (by kernel_rfl) (fun _ _ _ h => h) (Or.inl ⟨by rfl, ?hz5⟩) (by assumption) ?rezt5
  case hz5 => (intro w' hSw; (try dsimp only at hSw); go_simp; try with_reducible rfl)
  try simp only [Act.put, List.setIfInBounds_toArray, List.set_cons_zero, List.set_cons_succ, List.getElem_toArray, List.getElem_cons_zero, List.getElem_cons_succ]
  refine' wpAnyH_take (i := 5) (oi := _) (v := _) rfl (by kernel_rfl) (by kernel_rfl) (by kernel_rfl) (fun _ _ _ h => h) (Or.inl ⟨by rfl, ?hz6⟩) (by assumption) ?rezt6
  case hz6 => (intro w' hSw; (try dsimp only at hSw); go_simp; try with_reducible rfl)
  try simp only [Act.put, List.setIfInBounds_toArray, List.set_cons_zero, List.set_cons_succ, List.getElem_toArray, List.getElem_cons_zero, List.getElem_cons_succ]
  refine' wpAnyH_take (i := 6) (oi := _) (v := _) rfl (by kernel_rfl) (by kernel_rfl) (by kernel_rfl) (fun _ _ _ h => h) (Or.inl ⟨by rfl, ?hz7⟩) (by assumption) ?rezt7
  case hz7 => (intro w' hSw; (try dsimp only at hSw); go_simp; try with_reducible rfl)
  try simp only [Act.put, List.setIfInBounds_toArray, List.set_cons_zero, List.set_cons_succ, List.getElem_toArray, List.getElem_cons_zero, List.getElem_cons_succ]
  refine' wpAnyH_take (i := 7) (oi := _) (v := _) rfl (by kernel_rfl) (by kernel_rfl) (by kernel_rfl) (fun _ _ _ h => h) (Or.inl ⟨by rfl, ?hz8⟩) (by assumption) ?rezt8
  case hz8 => (intro w' hSw; (try dsimp only at hSw); go_simp; try with_reducible rfl)
  try simp only [Act.put, List.setIfInBounds_toArray, List.set_cons_zero, List.set_cons_succ, List.getElem_toArray, List.getElem_cons_zero, List.getElem_cons_succ]
  refine wpAnyH_ready (rs := [8]) (by kernel_rfl) (by simp) ?_
  refine AllReadyH.cons (o := _) rfl (fun K hK => ?_) AllReadyH.nil
  go_simp
  go_at_call 105
  refine (fixed2 _ v v0 v1).mono ?_
  rintro e w2 ⟨B2, n2, c2, rfl, hown2, hb2⟩
  have hb2' : Below w.heap.size w w2 := (Below.refl _ w).drew.trans (hb2.mono (Nat.le_refl _))
  have HO := Lib.hid hown2
  clear hown2 hb2
  refine hK.out _ _ ?_ (fun hHeld => ?_)
  · exact Mut.of hb2' gb
  clear hK K
  try simp only [Act.put, List.setIfInBounds_toArray, List.set_cons_zero, List.set_cons_succ, List.getElem_toArray, List.getElem_cons_zero, List.getElem_cons_succ]
  have hn2 : 2 = n2 := HF.out.symm.trans HO.out.len
  subst hn2
  have HP2 := Lib.hid (HP.out.keep hb2')
  have hcc := HP.out.cap
  refine wpAnyH_ready (rs := [9]) (by kernel_rfl) (by simp) ?_
  refine AllReadyH.cons (o := _) rfl (fun K hK => ?_) AllReadyH.nil
  refine step_copy_pg rfl (.tmp 11) (.tmp 14) rfl gb i (L.length - i) (c - i) c L (fxL v 2) X (by rw [HD.out]; rfl) HP2.out.row hcc (by omega) B2 2 c2 rfl HF.out (by omega) HO.out.rd ?_
  intro w3 hr3 hm3
  have hM3 : Mut w gb w3 := (Mut.of hb2' gb).trans hm3
  have HP3 := Lib.hid (HP2.out.mut hm3 hr3 (splice_len (by rw [HF.out]; exact hi)) (splice_isB HP.out.byts (fxL_isB v 2) i))
  refine hK.out _ _ ?_ (fun hHeld => ?_)
  · exact hM3
  clear hK K
  try simp only [Act.put, List.setIfInBounds_toArray, List.set_cons_zero, List.set_cons_succ, List.getElem_toArray, List.getElem_cons_zero, List.getElem_cons_succ]
  refine wpAnyH_done (by kernel_rfl) ?_ _
  go_wp2
  first | go_ret | go_end0 | skip
  exact ⟨rfl, HP3.out, hM3⟩
end
section
open Go.RowKit
set_option maxRecDepth 100000
set_option linter.unusedVariables false
set_option linter.unusedSimpArgs false
set_option linter.unnecessarySimpa false
/-- A page: its size, its front, its cells, and where they lie. -/
structure Mdl where
  n : Nat
  F : List Int
  C : List (List Int)
  P : List Nat
def Mdl.h (M : Mdl) : Nat := M.F.length
def Mdl.k (M : Mdl) : Nat := M.C.length
def Mdl.cl (M : Mdl) (j : Nat) : List Int := M.C.getD j []
def Mdl.pl (M : Mdl) (j : Nat) : Nat := M.P.getD j 0
def Mdl.used (M : Mdl) (k : Nat) : Nat := M.h + 2 + 2 * k
structure Good (M : Mdl) : Prop where
  n0 : 256 ≤ M.n
  n1 : M.n ≤ 4096
  h1 : M.h ≤ 64
  same : M.P.length = M.k
  fit : M.used M.k ≤ M.n
  lo : ∀ j, j < M.k → M.used M.k ≤ M.pl j
  hi : ∀ j, j < M.k → M.pl j + 2 + (M.cl j).length ≤ M.n
  apart : ∀ i j, i < j → j < M.k → M.pl i + 2 + (M.cl i).length ≤ M.pl j ∨ M.pl j + 2 + (M.cl j).length ≤ M.pl i
  fb : IsB M.F
  cb : ∀ c ∈ M.C, IsB c
  room : M.used M.k + (M.C.map fun c => 2 + c.length).sum ≤ M.n
structure IsP (L : List Int) (M : Mdl) : Prop where
  len : L.length = M.n
  byts : IsB L
  front : ∀ i, i < M.h → bt L i = bt M.F i
  many : tw L M.h = (M.k : Int)
  slots : ∀ j, j < M.k → tw L (M.h + 2 + 2 * j) = (M.pl j : Int)
  lens : ∀ j, j < M.k → tw L (M.pl j) = ((M.cl j).length : Int)
  body : ∀ j, j < M.k → ∀ t, t < (M.cl j).length → bt L (M.pl j + 2 + t) = bt (M.cl j) t
  zero : ∀ x, M.used M.k ≤ x → x < M.n → (∀ j, j < M.k → x < M.pl j ∨ M.pl j + 2 + (M.cl j).length ≤ x) → bt L x = 0
theorem Mdl.cl_isB {M : Mdl} (g : Good M) (j : Nat) : IsB (M.cl j) := by
  unfold Mdl.cl
  by_cases h : j < M.C.length
  · have : M.C.getD j [] = M.C[j] := by simp [h]
    rw [this]; exact g.cb _ (List.getElem_mem h)
  · have : M.C.getD j [] = [] := by simp [List.getElem?_eq_none (Nat.le_of_not_lt h)]
    rw [this]; intro x hx; simp at hx
theorem two_eq {L L' : List Int} (hL : IsB L) (hL' : IsB L') {i : Nat} (h : tw L i = tw L' i) : bt L i = bt L' i ∧ bt L (i + 1) = bt L' (i + 1) := by
  have a0 := IsB.bt hL i
  have a1 := IsB.bt hL (i + 1)
  have b0 := IsB.bt hL' i
  have b1 := IsB.bt hL' (i + 1)
  unfold tw at h
  omega
/-- A page has one row of bytes. -/
theorem IsP.eq {L L' : List Int} {M : Mdl} (g : Good M) (a : IsP L M) (b : IsP L' M) : L = L' := by
  refine eq_of_bt (by rw [a.len, b.len]) fun x hx => ?_
  rw [a.len] at hx
  by_cases h1 : x < M.h
  · rw [a.front x h1, b.front x h1]
  have hm := two_eq a.byts b.byts (a.many.trans b.many.symm)
  by_cases h2 : x < M.h + 2
  · rcases (by omega : x = M.h ∨ x = M.h + 1) with rfl | rfl
    · exact hm.1
    · exact hm.2
  by_cases h3 : x < M.used M.k
  · unfold Mdl.used at h3
    obtain ⟨j, hj⟩ : ∃ j, j = (x - (M.h + 2)) / 2 := ⟨_, rfl⟩
    have hs := two_eq a.byts b.byts ((a.slots j (by omega)).trans (b.slots j (by omega)).symm)
    rcases (by omega : x = M.h + 2 + 2 * j ∨ x = M.h + 2 + 2 * j + 1) with rfl | rfl
    · exact hs.1
    · exact hs.2
  by_cases h4 : ∀ j, j < M.k → x < M.pl j ∨ M.pl j + 2 + (M.cl j).length ≤ x
  · rw [a.zero x (by omega) hx h4, b.zero x (by omega) hx h4]
  · obtain ⟨j, hj⟩ := Classical.not_forall.1 h4
    obtain ⟨hjk, hj⟩ := Classical.not_imp.1 hj
    have hs := two_eq a.byts b.byts ((a.lens j hjk).trans (b.lens j hjk).symm)
    by_cases h5 : x < M.pl j + 2
    · rcases (by omega : x = M.pl j ∨ x = M.pl j + 1) with rfl | rfl
      · exact hs.1
      · exact hs.2
    · obtain ⟨t, rfl⟩ : ∃ t, x = M.pl j + 2 + t := ⟨x - (M.pl j + 2), by omega⟩
      rw [a.body j hjk t (by omega), b.body j hjk t (by omega)]

def takenC (C : List (List Int)) : Nat := (C.map fun c => 4 + c.length).sum
theorem takenC_app (C D : List (List Int)) : takenC (C ++ D) = takenC C + takenC D := by simp [takenC]
theorem takenC_one (c : List Int) : takenC [c] = 4 + c.length := by simp [takenC]
theorem takenC_take {C : List (List Int)} {i : Nat} (h : i < C.length) : takenC (C.take (i + 1)) = takenC (C.take i) + (4 + (C.getD i []).length) := by
  rw [List.take_succ_eq_append_getElem h, takenC_app, takenC_one]
  simp [h]
theorem takenC_le {C : List (List Int)} (b : Nat) (h : ∀ c ∈ C, c.length ≤ b) : takenC C ≤ (4 + b) * C.length := by
  induction C with
  | nil => simp [takenC]
  | cons c C ih =>
    have h1 := h c (List.mem_cons_self ..)
    have h2 := ih fun d hd => h d (List.mem_cons_of_mem _ hd)
    have e : takenC (c :: C) = (4 + c.length) + takenC C := by simp [takenC]
    rw [e, List.length_cons, Nat.mul_add]
    omega
def Mdl.left (M : Mdl) : Int := (M.n : Int) - M.h - 2 - takenC M.C
def minP (n : Nat) (P : List Nat) : Nat := P.foldl min n
theorem minP_app (n : Nat) (P : List Nat) (p : Nat) : minP n (P ++ [p]) = min (minP n P) p := by simp [minP]
theorem minP_take {n : Nat} {P : List Nat} {i : Nat} (h : i < P.length) : minP n (P.take (i + 1)) = min (minP n (P.take i)) (P.getD i 0) := by
  rw [List.take_succ_eq_append_getElem h, minP_app]
  simp [h]
theorem minP_le (n : Nat) (P : List Nat) : minP n P ≤ n := by
  induction P generalizing n with
  | nil => exact Nat.le_refl _
  | cons p P ih =>
    have := ih (min n p)
    show minP (min n p) P ≤ n
    omega
theorem minP_mem {n : Nat} {P : List Nat} {p : Nat} (h : p ∈ P) : minP n P ≤ p := by
  induction P generalizing n with
  | nil => simp at h
  | cons q P ih =>
    show minP (min n q) P ≤ p
    rcases List.mem_cons.1 h with rfl | h
    · have := minP_le (min n p) P
      omega
    · exact ih h
theorem minP_ge {n b : Nat} {P : List Nat} (h : ∀ p ∈ P, b ≤ p) (hn : b ≤ n) : b ≤ minP n P := by
  induction P generalizing n with
  | nil => exact hn
  | cons q P ih =>
    show b ≤ minP (min n q) P
    have := h q (List.mem_cons_self ..)
    exact ih (fun p hp => h p (List.mem_cons_of_mem _ hp)) (by omega)
def sz (C : List (List Int)) : Nat := (C.map fun c => 2 + c.length).sum
theorem sz_app (C D : List (List Int)) : sz (C ++ D) = sz C + sz D := by simp [sz]
theorem sz_one (c : List Int) : sz [c] = 2 + c.length := by simp [sz]
theorem sz_take {C : List (List Int)} {i : Nat} (h : i < C.length) : sz (C.take (i + 1)) = sz (C.take i) + (2 + (C.getD i []).length) := by
  rw [List.take_succ_eq_append_getElem h, sz_app, sz_one]
  simp [h]
theorem sz_take_le (C : List (List Int)) (i : Nat) : sz (C.take i) ≤ sz C := by
  have := sz_app (C.take i) (C.drop i)
  rw [List.take_append_drop] at this
  omega
theorem taken_sz (C : List (List Int)) : takenC C = sz C + 2 * C.length := by
  induction C with
  | nil => rfl
  | cons c C ih =>
    have e : takenC (c :: C) = (4 + c.length) + takenC C := by simp [takenC]
    have e2 : sz (c :: C) = (2 + c.length) + sz C := by simp [sz]
    rw [e, e2, ih, List.length_cons]
    omega
theorem Good.room' {M : Mdl} (g : Good M) : M.used M.k + sz M.C ≤ M.n := g.room
def Mdl.top (M : Mdl) : Nat := minP M.n M.P
theorem Good.clen {M : Mdl} (g : Good M) : ∀ c ∈ M.C, c.length ≤ 4096 := by
  intro c hc
  obtain ⟨j, hj, rfl⟩ := List.getElem_of_mem hc
  have h1 := g.hi j hj
  have h2 : M.cl j = M.C[j] := by simp [Mdl.cl, hj]
  rw [h2] at h1
  have := g.n1
  omega
theorem Good.kle {M : Mdl} (g : Good M) : M.k ≤ 2047 := by
  have h1 := g.fit
  have h2 := g.n1
  unfold Mdl.used at h1
  omega
end
section
open Go.RowKit
set_option maxRecDepth 100000
set_option linter.unusedVariables false
set_option linter.unusedSimpArgs false
set_option linter.unnecessarySimpa false
def layL (L : List Int) (q : Nat) (cs : List Int) : List Int := splice (splice L q (fxL (cs.length : Int) 2)) (q + 2) cs
theorem layL_len {L cs : List Int} {q : Nat} (h : q + 2 + cs.length ≤ L.length) : (layL L q cs).length = L.length := by
  have e : (splice L q (fxL (cs.length : Int) 2)).length = L.length := splice_len (by rw [fxL_length]; omega)
  unfold layL
  rw [splice_len (by rw [e]; exact h), e]
theorem Rd.mut {w w' : World} {gb : Nat} {A : Option Addr} {l : List Int} (h : Rd w A l) (hm : Mut w gb w') (hne : ∀ a, A = some a → l ≠ [] → a.block ≠ gb) : Rd w' A l := by
  rcases h with rfl | ⟨b, off, rfl, hc⟩
  · exact .inl rfl
  · refine .inr ⟨b, off, rfl, fun i hi => ?_⟩
    have h1 := hc i hi
    have h2 := hm.block b (World.block_lt_of_cell? w ⟨b, off + i, none⟩ h1) (hne _ rfl (by rintro rfl; simp at hi))
    rw [← h1]
    simp [World.cell?, h2]

set_option maxHeartbeats 4000000 in
theorem play_any (w : World) (g gb c h : Nat) (L : List Int) (X : List Value) (hp : Pg w g gb c h L X) (hL : L.length ≤ 4096) (q m : Nat) (sp : Option Addr) (sc : Nat) (cs : List Int) (hq : q + 2 + m ≤ L.length) (hm : cs.length = m) (hrd : Rd w sp cs) (hB : IsB cs) (hne : ∀ a, sp = some a → cs ≠ [] → a.block ≠ gb) :
    Calls Try.prog 69 #[.pointer (some ⟨g, 0, none⟩), .int .i64 ((q : Int) + 2 + (m : Int)), .slice sp m sc] w fun e w' => e = .returned (.int .i64 (q : Int)) ∧ PgBack g gb c h X w (layL L q cs) w' := by
  have HP := Lib.hid hp
  have HM := Lib.hid hm
  have HRD := Lib.hid hrd
  have hlc := hp.len
  clear hp hm hrd
  have hb : (q : Int) + 2 + (m : Int) - 2 - (m : Int) = (q : Int) := by omega
  have hbq : (q : Int) ≤ 4096 ∧ (m : Int) ≤ 4096 := by omega
  obtain ⟨top, htop⟩ : ∃ t, t = (q : Int) + 2 + (m : Int) := ⟨_, rfl⟩
  rw [← htop] at hb ⊢
  have ht : top ≤ 10000 ∧ 2 ≤ top := by omega
  have HT := Lib.hid htop
  clear htop
  go_enter Try.func69, Try.ntmps69
  go_wp2_with fail
  refine (pset_any _ g gb c h L X HP.out q (m : Int) (by omega) (by omega) (by omega)).mono ?_
  rintro e w1 ⟨rfl, hp1, hm1⟩
  obtain ⟨L1, hL1⟩ : ∃ L1, L1 = splice L q (fxL (m : Int) 2) := ⟨_, rfl⟩
  rw [← hL1] at hp1
  have hl1 : L1.length = L.length := by rw [hL1]; exact splice_len (by rw [fxL_length]; omega)
  have HP1 := Lib.hid hp1
  have HL1 := Lib.hid hL1
  have HM1 := Lib.hid hm1
  have HR1 := Lib.hid (HRD.out.mut hm1 hne)
  have m0 := hp1.m0
  rw [hl1] at m0
  have hcut := run_cut_from (some ⟨gb, 0, none⟩) L.length c (q + 2) (by omega)
  rw [show ((q + 2 : Nat) : Int) = (q : Int) + 2 by omega] at hcut
  obtain ⟨D, hD⟩ : ∃ D, cutA (some ⟨gb, 0, none⟩) c (q + 2) = D := ⟨_, rfl⟩
  have HD := Lib.hid hD
  rw [hD] at hcut
  have HLL := Lib.hid hl1
  clear hD hp1 hm1 hL1 hl1
  go_upto_region 3 with fail
  iterate 25 go_step
  refine wp_copy_pg rfl (.tmp 24) (.tmp 25) rfl gb (q + 2) (L.length - (q + 2)) (c - (q + 2)) c L1 cs X (by rw [HD.out]; rfl) HP1.out.row HP1.out.cap (by rw [HLL.out]; omega) sp m sc rfl HM.out (by omega) HR1.out ?_
  intro w3 hr3 hm3
  have hmm := HM1.out.trans hm3
  have hl : splice L1 (q + 2) cs = layL L q cs := by rw [HL1.out]; unfold layL; rw [HM.out]
  have HP3 := Lib.hid (HP1.out.mut hm3 hr3 (splice_len (by rw [HLL.out, HM.out]; exact hq)) (splice_isB HP1.out.byts hB _))
  rw [hl] at HP3
  clear hl hr3 hm3
  go_wp2
  go_ret
  exact ⟨rfl, HP3.out, hmm⟩

set_option maxHeartbeats 4000000 in
theorem ptop_any (w : World) (g gb c : Nat) (L : List Int) (X : List Value) (M : Mdl) (hp : Pg w g gb c M.h L X) (hi : IsP L M) (hg : Good M) :
    Calls Try.prog 71 #[.pointer (some ⟨g, 0, none⟩)] w fun e w' => e = .returned (.int .i64 (M.top : Int)) ∧ w = w' := by
  have m0 := hp.m0
  rw [hi.len] at m0
  have HP := Lib.hid hp
  have HI := Lib.hid hi
  have HG := Lib.hid hg
  have hn1 := hg.n1
  have hh := hg.h1
  have hfit := hg.fit
  have hk := hg.kle
  unfold Mdl.used at hfit
  clear hp hi hg
  have HMN := Lib.hid HI.out.many
  go_enter Try.func71, Try.ntmps71
  go_wp2_with fail
  refine (pmany_any _ g gb c M.h L X HP.out (by rw [HI.out.len]; omega)).mono ?_
  rintro e w1 ⟨rfl, rfl⟩
  rw [HMN.out]
  go_wp2_with fail
  go_loop [3, 12] (fun t i => ∃ j : Nat, j ≤ M.k ∧ i = .int .i64 j ∧ t = .int .i64 (minP M.n (M.P.take j) : Int)) (fun _ i => M.k - (intOf i).toNat)
  case atStart => exact ⟨0, Nat.zero_le _, rfl, rfl⟩
  case round =>
    obtain ⟨j, hj, rfl, rfl⟩ := hrel
    by_cases hlt : j < M.k
    · have hst := minP_take (n := M.n) (P := M.P) (i := j) (by rw [HG.out.same]; exact hlt)
      have hpl : M.P.getD j 0 = M.pl j := rfl
      rw [hpl] at hst
      clear hpl
      have HST := Lib.hid hst
      have hq := HG.out.hi j hlt
      have hm0 := minP_le M.n (M.P.take j)
      obtain ⟨q, hq'⟩ : ∃ q, M.pl j = q := ⟨_, rfl⟩
      have HS := Lib.hid (HI.out.slots j hlt)
      obtain ⟨t, ht⟩ : ∃ t, minP M.n (M.P.take j) = t := ⟨_, rfl⟩
      rw [hq', ht] at HST
      rw [hq'] at HS hq
      rw [ht] at hm0 ⊢
      have hj1 : (j : Int) ≤ 70000 := by omega
      have hlt' : (j : Int) < (M.k : Int) := by omega
      clear hst hq' ht
      go_wp2_with fail
      refine (pslot_any _ g gb c M.h L X HP.out hh (j : Int) (by omega) hj1).mono ?_
      rintro e w1 ⟨rfl, rfl⟩
      rw [show (M.h : Int) + 2 + 2 * (j : Int) = ((M.h + 2 + 2 * j : Nat) : Int) by omega]
      go_wp2_with fail
      refine (pnum_any _ g gb c M.h L X HP.out (M.h + 2 + 2 * j) (by rw [HI.out.len]; omega)).mono ?_
      rintro e w1 ⟨rfl, rfl⟩
      rw [HS.out]
      go_wp2_with fail
      go_round
      case rel => exact ⟨j + 1, by omega, by go_num, by rw [HST.out]; congr 1; first | omega | (split <;> omega)⟩
      case measure => simp [intOf]; omega
    · obtain rfl : j = M.k := by omega
      have ht : minP M.n (M.P.take M.k) = M.top := by rw [← HG.out.same, List.take_length]; rfl
      rw [ht]
      clear ht
      go_wp2_with fail
      go_ret
      exact ⟨rfl, rfl⟩
end
section
open Go.RowKit
set_option maxRecDepth 100000
set_option linter.unusedVariables false
set_option linter.unusedSimpArgs false
set_option linter.unnecessarySimpa false
theorem bt_zeros (m x : Nat) : bt (List.replicate m 0) x = 0 := by
  unfold bt
  simp only [List.getD_eq_getElem?_getD, List.getElem?_replicate]
  split <;> rfl
theorem bt_dt (L : List Int) (a m x : Nat) : bt ((L.drop a).take m) x = if x < m then bt L (a + x) else 0 := by
  unfold bt
  simp only [List.getD_eq_getElem?_getD, List.getElem?_take, List.getElem?_drop]
  split <;> rfl
theorem isB_dt {L : List Int} (h : IsB L) (a m : Nat) : IsB ((L.drop a).take m) := fun x hx => h x (List.mem_of_mem_drop (List.mem_of_mem_take hx))
theorem layL_isB {L cs : List Int} (hL : IsB L) (hc : IsB cs) (q : Nat) : IsB (layL L q cs) := splice_isB (splice_isB hL (fxL_isB _ _) _) hc _
/-- A byte of a row onto which a cell was laid. -/
theorem bt_lay {L cs : List Int} {q : Nat} (h : q + 2 + cs.length ≤ L.length) (x : Nat) :
    bt (layL L q cs) x = if q + 2 ≤ x ∧ x < q + 2 + cs.length then bt cs (x - (q + 2)) else if q ≤ x ∧ x < q + 2 then bt (fxL (cs.length : Int) 2) (x - q) else bt L x := by
  have e : (splice L q (fxL (cs.length : Int) 2)).length = L.length := splice_len (by rw [fxL_length]; omega)
  unfold layL
  rw [bt_splice (by rw [e]; exact h), bt_splice (by rw [fxL_length]; omega), fxL_length]
theorem bt_lay_out {L cs : List Int} {q : Nat} (h : q + 2 + cs.length ≤ L.length) {x : Nat} (hx : x < q ∨ q + 2 + cs.length ≤ x) : bt (layL L q cs) x = bt L x := by
  rw [bt_lay h, if_neg (by omega), if_neg (by omega)]
theorem tw_lay_out {L cs : List Int} {q : Nat} (h : q + 2 + cs.length ≤ L.length) {x : Nat} (hx : x + 2 ≤ q ∨ q + 2 + cs.length ≤ x) : tw (layL L q cs) x = tw L x := by
  unfold tw
  rw [bt_lay_out h (by omega), bt_lay_out h (by omega)]
theorem tw_lay {L cs : List Int} {q : Nat} (h : q + 2 + cs.length ≤ L.length) (hc : cs.length ≤ 65535) : tw (layL L q cs) q = (cs.length : Int) := by
  obtain ⟨a, b⟩ := bt_fx2 (v := (cs.length : Int)) (by omega) (by omega)
  unfold tw
  rw [bt_lay h, bt_lay h, if_neg (by omega), if_pos (by omega), if_neg (by omega), if_pos (by omega), Nat.sub_self, show q + 1 - q = 1 by omega, a, b]
  omega
theorem bt_lay_in {L cs : List Int} {q : Nat} (h : q + 2 + cs.length ≤ L.length) {t : Nat} (ht : t < cs.length) : bt (layL L q cs) (q + 2 + t) = bt cs t := by
  rw [bt_lay h, if_pos (by omega), show q + 2 + t - (q + 2) = t by omega]
theorem bt_set_out {L : List Int} {v : Int} {i : Nat} (h : i + 2 ≤ L.length) {x : Nat} (hx : x < i ∨ i + 2 ≤ x) : bt (splice L i (fxL v 2)) x = bt L x := by
  rw [bt_splice (by rw [fxL_length]; exact h), fxL_length, if_neg (by omega)]
theorem tw_set_out {L : List Int} {v : Int} {i : Nat} (h : i + 2 ≤ L.length) {x : Nat} (hx : x + 2 ≤ i ∨ i + 2 ≤ x) : tw (splice L i (fxL v 2)) x = tw L x :=
  tw_out (by rw [fxL_length]; exact h) (by rw [fxL_length]; exact hx)
theorem set_len {L : List Int} {v : Int} {i : Nat} (h : i + 2 ≤ L.length) : (splice L i (fxL v 2)).length = L.length := splice_len (by rw [fxL_length]; exact h)

def Mdl.pk (M : Mdl) (i : Nat) : Nat := M.n - sz (M.C.take (i + 1))
def Mdl.pack (M : Mdl) : Mdl := { M with P := (List.range M.k).map M.pk }
theorem pack_pl {M : Mdl} {j : Nat} (h : j < M.k) : M.pack.pl j = M.pk j := by simp [Mdl.pack, Mdl.pl, h]
theorem pack_cl (M : Mdl) (j : Nat) : M.pack.cl j = M.cl j := rfl
theorem pk_eq {M : Mdl} (g : Good M) {j : Nat} (h : j < M.k) : M.pk j + 2 + (M.cl j).length = M.n - sz (M.C.take j) ∧ M.used M.k ≤ M.pk j ∧ sz (M.C.take j) ≤ M.n := by
  have e := sz_take (C := M.C) (i := j) h
  have e2 : M.C.getD j [] = M.cl j := rfl
  rw [e2] at e
  have h1 := sz_take_le M.C (j + 1)
  have h2 := g.room'
  unfold Mdl.pk
  omega
theorem pk_anti {M : Mdl} (g : Good M) {i j : Nat} (h : i < j) (hj : j < M.k) : M.pk j + 2 + (M.cl j).length ≤ M.pk i := by
  have h1 := pk_eq g hj
  have h2 : sz (M.C.take (i + 1)) ≤ sz (M.C.take j) := by
    have := sz_take_le (M.C.take j) (i + 1)
    rwa [List.take_take, Nat.min_eq_left (by omega)] at this
  unfold Mdl.pk at *
  omega
theorem Good.packed {M : Mdl} (g : Good M) : Good M.pack where
  n0 := g.n0
  n1 := g.n1
  h1 := g.h1
  same := by simp [Mdl.pack, Mdl.k]
  fit := g.fit
  lo := fun j hj => by rw [pack_pl (M := M) hj]; exact (pk_eq g hj).2.1
  hi := fun j hj => by
    rw [pack_pl (M := M) hj, pack_cl]
    have := pk_eq g hj
    show M.pk j + 2 + (M.cl j).length ≤ M.n
    omega
  apart := fun i j hij hj => by
    have hj' : j < M.k := hj
    rw [pack_pl hj', pack_pl (show i < M.k by omega), pack_cl, pack_cl]
    exact .inr (pk_anti g hij hj')
  fb := g.fb
  cb := g.cb
  room := g.room
structure PkS (L : List Int) (M : Mdl) (j : Nat) : Prop where
  len : L.length = M.n
  byts : IsB L
  front : ∀ i, i < M.h → bt L i = bt M.F i
  many : tw L M.h = (M.k : Int)
  slots : ∀ i, i < j → tw L (M.h + 2 + 2 * i) = (M.pk i : Int)
  lens : ∀ i, i < j → tw L (M.pk i) = ((M.cl i).length : Int)
  body : ∀ i, i < j → ∀ t, t < (M.cl i).length → bt L (M.pk i + 2 + t) = bt (M.cl i) t
  zero : ∀ x, M.used M.k ≤ x → x < M.n - sz (M.C.take j) → bt L x = 0
theorem PkS.start {L : List Int} {M : Mdl} (g : Good M) (p : IsP L M) : PkS (splice L (M.used M.k) (List.replicate (M.n - M.used M.k) 0)) M 0 := by
  have hf := g.fit
  have hl : M.used M.k + (List.replicate (M.n - M.used M.k) (0 : Int)).length ≤ L.length := by rw [List.length_replicate, p.len]; omega
  have hu : M.used M.k = M.h + 2 + 2 * M.k := rfl
  refine ⟨by rw [splice_len hl, p.len], splice_isB p.byts (fun x hx => by rw [List.eq_of_mem_replicate hx]; omega) _, fun i hi => ?_, ?_, fun i hi => by omega, fun i hi => by omega, fun i hi => by omega, fun x h1 h2 => ?_⟩
  · rw [bt_splice hl, if_neg (by omega), p.front i hi]
  · rw [tw_out hl (by omega), p.many]
  · have h3 : x < M.n := by omega
    rw [bt_splice hl, if_pos (by rw [List.length_replicate]; omega), bt_zeros]
theorem PkS.step {L : List Int} {M : Mdl} (g : Good M) {j : Nat} (hj : j < M.k) (p : PkS L M j) :
    PkS (splice (layL L (M.pk j) (M.cl j)) (M.h + 2 + 2 * j) (fxL (M.pk j : Int) 2)) M (j + 1) := by
  obtain ⟨e1, e2, e3⟩ := pk_eq g hj
  have hu : M.used M.k = M.h + 2 + 2 * M.k := rfl
  have hn1 := g.n1
  have hl : M.pk j + 2 + (M.cl j).length ≤ L.length := by rw [p.len]; omega
  have hl2 := layL_len hl
  have hs : M.h + 2 + 2 * j + 2 ≤ (layL L (M.pk j) (M.cl j)).length := by rw [hl2, p.len]; omega
  refine ⟨by rw [set_len hs, hl2, p.len], splice_isB (layL_isB p.byts (Mdl.cl_isB g j) _) (fxL_isB _ _) _, fun i hi => ?_, ?_, fun i hi => ?_, fun i hi => ?_, fun i hi t ht => ?_, fun x h1 h2 => ?_⟩
  · rw [bt_set_out hs (by omega), bt_lay_out hl (by omega), p.front i hi]
  · rw [tw_set_out hs (by omega), tw_lay_out hl (by omega), p.many]
  · by_cases h : i = j
    · subst h
      exact tw_set (by omega) (by omega) hs
    · rw [tw_set_out hs (by omega), tw_lay_out hl (by omega), p.slots i (by omega)]
  · by_cases h : i = j
    · subst h
      rw [tw_set_out hs (by omega), tw_lay hl (by omega)]
    · have h1 := pk_anti g (show i < j by omega) hj
      have h2 := (pk_eq g (show i < M.k by omega)).2.1
      rw [tw_set_out hs (by omega), tw_lay_out hl (by omega), p.lens i (by omega)]
  · by_cases h : i = j
    · subst h
      rw [bt_set_out hs (by omega), bt_lay_in hl ht]
    · have h1 := pk_anti g (show i < j by omega) hj
      rw [bt_set_out hs (by omega), bt_lay_out hl (by omega), p.body i (by omega) t ht]
  · have e4 : M.n - sz (M.C.take (j + 1)) = M.pk j := rfl
    rw [e4] at h2
    rw [bt_set_out hs (by omega), bt_lay_out hl (by omega), p.zero x h1 (by omega)]
theorem PkS.done {L : List Int} {M : Mdl} (g : Good M) (p : PkS L M M.k) : IsP L M.pack where
  len := p.len
  byts := p.byts
  front := p.front
  many := p.many
  slots := fun j hj => by rw [pack_pl (M := M) hj]; exact p.slots j hj
  lens := fun j hj => by rw [pack_pl (M := M) hj]; exact p.lens j hj
  body := fun j hj t ht => by rw [pack_pl (M := M) hj]; exact p.body j hj t ht
  zero := fun x h1 h2 h3 => by
    have h1' : M.used M.k ≤ x := h1
    by_cases h4 : x < M.n - sz (M.C.take M.k)
    · exact p.zero x h1' h4
    · exfalso
      -- x lies in some cell: the cells stand side by side
      have key : ∀ j, j ≤ M.k → M.n - sz (M.C.take j) ≤ x → False := by
        intro j
        induction j with
        | zero => intro _ h; simp [sz] at h; have h2' : x < M.n := h2; omega
        | succ j ih =>
          intro hj h
          have hj' : j < M.k := by omega
          have e := pk_eq g hj'
          have h5 := h3 j hj'
          rw [pack_pl hj', pack_cl] at h5
          have e4 : M.n - sz (M.C.take (j + 1)) = M.pk j := rfl
          rw [e4] at h
          exact ih (by omega) (by omega)
      exact key M.k (Nat.le_refl _) (by omega)
end
section
open Go.RowKit
set_option maxRecDepth 100000
set_option linter.unusedVariables false
set_option linter.unusedSimpArgs false
set_option linter.unnecessarySimpa false
theorem getD_ins {α : Type} (l : List α) (i j : Nat) (c d : α) (hi : i ≤ l.length) : (l.take i ++ c :: l.drop i).getD j d = if j < i then l.getD j d else if j = i then c else l.getD (j - 1) d := by
  simp only [List.getD_eq_getElem?_getD]
  by_cases h : j < i
  · rw [if_pos h, List.getElem?_append_left (by simp; omega), List.getElem?_take, if_pos h]
  · rw [if_neg h, List.getElem?_append_right (by simp; omega)]
    have e : j - (l.take i).length = j - i := by rw [List.length_take]; omega
    rw [e]
    by_cases h2 : j = i
    · subst h2; simp
    · rw [if_neg h2]
      obtain ⟨m, hm⟩ : ∃ m, j - i = m + 1 := ⟨j - i - 1, by omega⟩
      rw [hm, List.getElem?_cons_succ, List.getElem?_drop]
      congr 2
      omega
def Mdl.ins (M : Mdl) (i q : Nat) (c : List Int) : Mdl := { M with C := M.C.take i ++ c :: M.C.drop i, P := M.P.take i ++ q :: M.P.drop i }
def insL (h k i q : Nat) (L c : List Int) : List Int :=
  splice (splice (splice (layL L q c) (h + 2 + 2 * (i + 1)) (((layL L q c).drop (h + 2 + 2 * i)).take (2 * (k - i)))) (h + 2 + 2 * i) (fxL (q : Int) 2)) h (fxL ((k : Int) + 1) 2)
theorem ins_cl {M : Mdl} {i q : Nat} {c : List Int} (hi : i ≤ M.k) (j : Nat) : (M.ins i q c).cl j = if j < i then M.cl j else if j = i then c else M.cl (j - 1) := getD_ins M.C i j c [] hi
theorem ins_pl {M : Mdl} {i q : Nat} {c : List Int} (g : Good M) (hi : i ≤ M.k) (j : Nat) : (M.ins i q c).pl j = if j < i then M.pl j else if j = i then q else M.pl (j - 1) := getD_ins M.P i j q 0 (by rw [g.same]; exact hi)
theorem ins_k {M : Mdl} {i q : Nat} {c : List Int} (hi : i ≤ M.k) : (M.ins i q c).k = M.k + 1 := by
  unfold Mdl.k at *
  simp [Mdl.ins]
  omega
theorem top_le {M : Mdl} (g : Good M) {j : Nat} (hj : j < M.k) : M.top ≤ M.pl j := by
  have h : j < M.P.length := by rw [g.same]; exact hj
  have e : M.pl j = M.P[j] := by simp [Mdl.pl, h]
  rw [e]
  exact minP_mem (List.getElem_mem h)
theorem top_n (M : Mdl) : M.top ≤ M.n := minP_le _ _
theorem Good.ins {M : Mdl} (g : Good M) {i q : Nat} {c : List Int} (hi : i ≤ M.k) (hq : q + 2 + c.length ≤ M.top) (hu : M.used (M.k + 1) ≤ q) (hr : M.used (M.k + 1) + sz M.C + (2 + c.length) ≤ M.n) (hB : IsB c) : Good (M.ins i q c) := by
  have hk := ins_k (q := q) (c := c) hi
  have hus : ∀ j, (M.ins i q c).used j = M.used j := fun _ => rfl
  have huk : M.used (M.k + 1) = M.used M.k + 2 := rfl
  refine ⟨g.n0, g.n1, g.h1, ?_, ?_, fun j hj => ?_, fun j hj => ?_, fun a b hab hb => ?_, g.fb, fun d hd => ?_, ?_⟩
  · rw [hk]
    have := g.same
    simp [Mdl.ins]
    omega
  · rw [hk, hus]; show M.used (M.k + 1) ≤ M.n; omega
  · rw [hk] at hj
    rw [hk, hus, ins_pl g hi]
    split
    · have h1 := top_le g (j := j) (by omega); omega
    · split
      · exact hu
      · have h1 := top_le g (j := j - 1) (by omega); omega
  · rw [hk] at hj
    rw [ins_pl g hi, ins_cl hi]
    show _ ≤ M.n
    split
    · exact g.hi j (by omega)
    · split
      · have := top_n M; omega
      · exact g.hi (j - 1) (by omega)
  · rw [hk] at hb
    rw [ins_pl g hi, ins_pl g hi, ins_cl hi, ins_cl hi]
    by_cases ha : a < i
    · rw [if_pos ha, if_pos ha]
      by_cases hb1 : b < i
      · rw [if_pos hb1, if_pos hb1]; exact g.apart a b hab (by omega)
      · rw [if_neg hb1, if_neg hb1]
        by_cases hb2 : b = i
        · rw [if_pos hb2, if_pos hb2]; have := top_le g (j := a) (by omega); right; omega
        · rw [if_neg hb2, if_neg hb2]; exact g.apart a (b - 1) (by omega) (by omega)
    · rw [if_neg ha, if_neg ha]
      have hb1 : ¬ b < i := by omega
      have hb2 : ¬ b = i := by omega
      rw [if_neg hb1, if_neg hb2, if_neg hb1, if_neg hb2]
      by_cases ha2 : a = i
      · rw [if_pos ha2, if_pos ha2]; have := top_le g (j := b - 1) (by omega); left; omega
      · rw [if_neg ha2, if_neg ha2]; exact g.apart (a - 1) (b - 1) (by omega) (by omega)
  · rcases List.mem_append.1 hd with h | h
    · exact g.cb d (List.mem_of_mem_take h)
    · rcases List.mem_cons.1 h with rfl | h
      · exact hB
      · exact g.cb d (List.mem_of_mem_drop h)
  · rw [hk, hus]
    show M.used (M.k + 1) + sz (M.C.take i ++ c :: M.C.drop i) ≤ M.n
    have e1 : sz (M.C.take i ++ c :: M.C.drop i) = sz M.C + (2 + c.length) := by
      rw [show M.C.take i ++ c :: M.C.drop i = M.C.take i ++ ([c] ++ M.C.drop i) from rfl, sz_app, sz_app, sz_one]
      have := sz_app (M.C.take i) (M.C.drop i)
      rw [List.take_append_drop] at this
      omega
    rw [e1]
    omega

theorem ins_page {M : Mdl} (g : Good M) {L : List Int} (p : IsP L M) {i q : Nat} {c : List Int} (hi : i ≤ M.k) (hq : q + 2 + c.length ≤ M.top) (hu : M.used (M.k + 1) ≤ q) (hB : IsB c) : IsP (insL M.h M.k i q L c) (M.ins i q c) ∧ (insL M.h M.k i q L c).length = L.length ∧ IsB (insL M.h M.k i q L c) := by
  have hk := ins_k (q := q) (c := c) hi
  have hus : ∀ j, M.used j = M.h + 2 + 2 * j := fun _ => rfl
  have htn := top_n M
  have hn1 := g.n1
  have hkl := g.kle
  rw [hus] at hu
  have hl : q + 2 + c.length ≤ L.length := by rw [p.len]; omega
  obtain ⟨A, hA⟩ : ∃ A, A = layL L q c := ⟨_, rfl⟩
  have hAl : A.length = M.n := by rw [hA, layL_len hl, p.len]
  have hAb : IsB A := by rw [hA]; exact layL_isB p.byts hB q
  obtain ⟨S, hS⟩ : ∃ S, S = (A.drop (M.h + 2 + 2 * i)).take (2 * (M.k - i)) := ⟨_, rfl⟩
  have hSl : S.length = 2 * (M.k - i) := by rw [hS]; simp; omega
  have hSb : IsB S := by rw [hS]; exact isB_dt hAb _ _
  have hfit : M.h + 2 + 2 * (i + 1) + S.length ≤ A.length := by omega
  obtain ⟨B, hBd⟩ : ∃ B, B = splice A (M.h + 2 + 2 * (i + 1)) S := ⟨_, rfl⟩
  have hBl : B.length = M.n := by rw [hBd, splice_len hfit, hAl]
  have hBb : IsB B := by rw [hBd]; exact splice_isB hAb hSb _
  obtain ⟨D, hD⟩ : ∃ D, D = splice B (M.h + 2 + 2 * i) (fxL (q : Int) 2) := ⟨_, rfl⟩
  have hs1 : M.h + 2 + 2 * i + 2 ≤ B.length := by omega
  have hDl : D.length = M.n := by rw [hD, set_len hs1, hBl]
  have hDb : IsB D := by rw [hD]; exact splice_isB hBb (fxL_isB _ _) _
  have hs2 : M.h + 2 ≤ D.length := by omega
  have hZ : insL M.h M.k i q L c = splice D M.h (fxL ((M.k : Int) + 1) 2) := by rw [hD, hBd, hS, hA]; rfl
  rw [hZ]
  have hZl := set_len (v := (M.k : Int) + 1) hs2
  have hZb : IsB (splice D M.h (fxL ((M.k : Int) + 1) 2)) := splice_isB hDb (fxL_isB _ _) _
  -- bytes elsewhere
  have hout : ∀ x, x < M.h ∨ M.h + 2 + 2 * (M.k + 1) ≤ x → bt (splice D M.h (fxL ((M.k : Int) + 1) 2)) x = bt A x := by
    intro x hx
    rw [bt_set_out hs2 (by omega), hD, bt_set_out hs1 (by omega), hBd, bt_splice hfit, if_neg (by omega)]
  have htw : ∀ x, M.h + 2 + 2 * (M.k + 1) ≤ x → tw (splice D M.h (fxL ((M.k : Int) + 1) 2)) x = tw A x := by
    intro x hx
    unfold tw
    rw [hout x (by omega), hout (x + 1) (by omega)]
  have hslA : ∀ j, j < M.k → tw A (M.h + 2 + 2 * j) = (M.pl j : Int) := by
    intro j hj
    rw [hA, tw_lay_out hl (by omega), p.slots j hj]
  have hslB : ∀ j, j < M.k + 1 → j ≠ i → tw B (M.h + 2 + 2 * j) = if j < i then (M.pl j : Int) else (M.pl (j - 1) : Int) := by
    intro j hj hne
    by_cases h : j < i
    · rw [if_pos h, hBd, tw_out hfit (by omega), hslA j (by omega)]
    · rw [if_neg h, ← hslA (j - 1) (by omega), hBd]
      unfold tw
      rw [bt_splice hfit, bt_splice hfit, if_pos (by omega), if_pos (by omega), hS, bt_dt, bt_dt, if_pos (by omega), if_pos (by omega)]
      rw [show M.h + 2 + 2 * i + (M.h + 2 + 2 * j - (M.h + 2 + 2 * (i + 1))) = M.h + 2 + 2 * (j - 1) by omega, show M.h + 2 + 2 * i + (M.h + 2 + 2 * j + 1 - (M.h + 2 + 2 * (i + 1))) = M.h + 2 + 2 * (j - 1) + 1 by omega]
  refine ⟨⟨by rw [hZl, hDl]; rfl, hZb, fun x hx => ?_, ?_, fun j hj => ?_, fun j hj => ?_, fun j hj t ht => ?_, fun x h1 h2 h3 => ?_⟩, by rw [hZl, hDl, p.len], hZb⟩
  · have hx' : x < M.h := hx
    rw [hout x (.inl hx'), hA, bt_lay_out hl (by omega)]
    exact p.front x hx'
  · rw [hk]
    show tw _ M.h = _
    rw [tw_set (by omega) (by omega) hs2]
    omega
  · rw [hk] at hj
    rw [ins_pl g hi]
    show tw _ (M.h + 2 + 2 * j) = _
    rw [tw_set_out hs2 (by omega)]
    by_cases hji : j = i
    · subst hji
      rw [if_neg (by omega), if_pos rfl, hD]
      exact tw_set (by omega) (by omega) hs1
    · rw [hD, tw_set_out hs1 (by omega), hslB j hj hji]
      by_cases h : j < i
      · rw [if_pos h, if_pos h]
      · rw [if_neg h, if_neg h, if_neg hji]
  · rw [hk] at hj
    rw [ins_pl g hi, ins_cl hi]
    have old : ∀ a, a < M.k → tw (splice D M.h (fxL ((M.k : Int) + 1) 2)) (M.pl a) = ((M.cl a).length : Int) := by
      intro a ha
      have h1 := top_le g ha
      rw [htw _ (by omega), hA, tw_lay_out hl (by omega), p.lens a ha]
    by_cases h : j < i
    · rw [if_pos h, if_pos h]; exact old j (by omega)
    · rw [if_neg h, if_neg h]
      by_cases hji : j = i
      · rw [if_pos hji, if_pos hji, htw _ (by omega), hA, tw_lay hl (by omega)]
      · rw [if_neg hji, if_neg hji]; exact old (j - 1) (by omega)
  · rw [hk] at hj
    rw [ins_cl hi] at ht
    rw [ins_pl g hi, ins_cl hi]
    have old : ∀ a, a < M.k → ∀ t, t < (M.cl a).length → bt (splice D M.h (fxL ((M.k : Int) + 1) 2)) (M.pl a + 2 + t) = bt (M.cl a) t := by
      intro a ha t ht
      have h1 := top_le g ha
      rw [hout _ (by omega), hA, bt_lay_out hl (by omega), p.body a ha t ht]
    by_cases h : j < i
    · rw [if_pos h] at ht
      rw [if_pos h, if_pos h]; exact old j (by omega) t ht
    · rw [if_neg h] at ht
      rw [if_neg h, if_neg h]
      by_cases hji : j = i
      · rw [if_pos hji] at ht
        rw [if_pos hji, if_pos hji, hout _ (by omega), hA, bt_lay_in hl ht]
      · rw [if_neg hji] at ht
        rw [if_neg hji, if_neg hji]; exact old (j - 1) (by omega) t ht
  · have h1' : M.h + 2 + 2 * (M.k + 1) ≤ x := by have : (M.ins i q c).used (M.ins i q c).k ≤ x := h1; rw [hk] at this; exact this
    have h2' : x < M.n := h2
    have hi' := h3 i (by rw [hk]; omega)
    rw [ins_pl g hi, ins_cl hi, if_neg (by omega), if_pos rfl, if_neg (by omega), if_pos rfl] at hi'
    rw [hout x (.inr h1'), hA, bt_lay_out hl (by omega)]
    refine p.zero x (by rw [hus]; omega) h2' fun j hj => ?_
    by_cases h : j < i
    · have := h3 j (by rw [hk]; omega)
      rwa [ins_pl g hi, ins_cl hi, if_pos h, if_pos h] at this
    · have := h3 (j + 1) (by rw [hk]; omega)
      rwa [ins_pl g hi, ins_cl hi, if_neg (by omega), if_neg (by omega), if_neg (by omega), if_neg (by omega), Nat.add_sub_cancel] at this
end
section
open Go.RowKit
set_option maxRecDepth 100000
set_option linter.unusedVariables false
set_option linter.unusedSimpArgs false
set_option linter.unnecessarySimpa false
set_option maxHeartbeats 8000000 in
theorem pleft_any (w : World) (g gb c : Nat) (L : List Int) (X : List Value) (M : Mdl) (hp : Pg w g gb c M.h L X) (hi : IsP L M) (hg : Good M) :
    Calls Try.prog 67 #[.pointer (some ⟨g, 0, none⟩)] w fun e w' => e = .returned (.int .i64 M.left) ∧ Below w.heap.size w w' := by
  have m0 := hp.m0
  have m1 := hp.m1
  rw [hi.len] at m0
  have HP := Lib.hid hp
  have HI := Lib.hid hi
  have HG := Lib.hid hg
  have hn1 := hg.n1
  have hn0 := hg.n0
  have hh := hg.h1
  have hfit := hg.fit
  have hk := hg.kle
  unfold Mdl.used at hfit
  clear hp hi hg
  have HMN := Lib.hid HI.out.many
  have e1 : IntKind.i64.wrap ((M.n : Int) - (M.h : Int)) = (M.n : Int) - (M.h : Int) := IntWalk.i64_in _ (by omega)
  have e2 : IntKind.i64.wrap ((M.n : Int) - (M.h : Int) - 2) = (M.n : Int) - (M.h : Int) - 2 := IntWalk.i64_in _ (by omega)
  have K0 : ∀ W : World, Below w.heap.size w W → W.cell? ⟨g, 0, none⟩ = some (.slice (some ⟨gb, 0, none⟩) M.n c) := fun W hW => (hW.cell (World.block_lt_of_cell? _ _ m0)).trans m0
  have K1 : ∀ W : World, Below w.heap.size w W → W.cell? ⟨g, 1, none⟩ = some (.int .i64 (M.h : Int)) := fun W hW => (hW.cell (World.block_lt_of_cell? _ _ m1)).trans m1
  clear m0 m1
  go_enter Try.func67, Try.ntmps67
  go_upto_region 1 with fail
  refine wp_region_held_drew (S := (fun W => Below w.heap.size w W)) (by kernel_rfl) ?_ (fun hHeld => ?_)
  · exact (Below.refl _ w).drew
  refine' wpAnyH_take (i := 0) (oi := _) (v := _) rfl (by kernel_rfl) (by kernel_rfl) (by kernel_rfl) (fun _ _ _ h => h) (Or.inl ⟨by rfl, ?hz1⟩) (by assumption) ?rezt1
  case hz1 => (intro w' hSw; (try dsimp only at hSw); go_simp; try with_reducible rfl)
  try simp only [Act.put, List.setIfInBounds_toArray, List.set_cons_zero, List.set_cons_succ, List.getElem_toArray, List.getElem_cons_zero, List.getElem_cons_succ]
  refine' wpAnyH_take (i := 1) (oi := _) (v := _) rfl (by kernel_rfl) (by kernel_rfl) (by kernel_rfl) (fun _ _ _ h => h) (Or.inl ⟨by rfl, ?hz2⟩) (by assumption) ?rezt2
  case hz2 => (intro w' hSw; (try dsimp only at hSw); go_simp; try with_reducible rfl)
  try simp only [Act.put, List.setIfInBounds_toArray, List.set_cons_zero, List.set_cons_succ, List.getElem_toArray, List.getElem_cons_zero, List.getElem_cons_succ]
  refine' wpAnyH_take (i := 2) (oi := _) (v := _) rfl (by kernel_rfl) (by kernel_rfl) (by kernel_rfl) (fun _ _ _ h => h) (Or.inl ⟨by rfl, ?hz3⟩) (by assumption) ?rezt3
  case hz3 => (intro w' hSw; (try dsimp only at hSw); go_simp; try with_reducible rfl)
  try simp only [Act.put, List.setIfInBounds_toArray, List.set_cons_zero, List.set_cons_succ, List.getElem_toArray, List.getElem_cons_zero, List.getElem_cons_succ]
  refine' wpAnyH_take (i := 3) (oi := _) (v := _) rfl (by kernel_rfl) (by kernel_rfl) (by kernel_rfl) (fun _ _ _ h => h) (Or.inl ⟨by rfl, ?hz4⟩) (by assumption) ?rezt4
  case hz4 => (intro w' hSw; (try dsimp only at hSw); go_simp; try with_reducible rfl)
  try simp only [Act.put, List.setIfInBounds_toArray, List.set_cons_zero, List.set_cons_succ, List.getElem_toArray, List.getElem_cons_zero, List.getElem_cons_succ]
  refine' wpAnyH_take (i := 4) (oi := _) (v := _) rfl (by kernel_rfl) (by kernel_rfl) (by kernel_rfl) (fun _ _ _ h => h) (Or.inl ⟨by rfl, ?hz5⟩) (by assumption) ?rezt5
  case hz5 => (intro w' hSw; (try dsimp only at hSw); go_simp; try with_reducible rfl)
  try simp only [Act.put, List.setIfInBounds_toArray, List.set_cons_zero, List.set_cons_succ, List.getElem_toArray, List.getElem_cons_zero, List.getElem_cons_succ]
  refine' wpAnyH_take (i := 5) (oi := _) (v := _) rfl (by kernel_rfl) (by kernel_rfl) (by kernel_rfl) (fun _ _ _ h => h) (Or.inl ⟨by rfl, ?hz6⟩) (by assumption) ?rezt6
  case hz6 => (intro w' hSw; (try dsimp only at hSw); go_simp; try with_reducible rfl)
  try simp only [Act.put, List.setIfInBounds_toArray, List.set_cons_zero, List.set_cons_succ, List.getElem_toArray, List.getElem_cons_zero, List.getElem_cons_succ]
  refine' wpAnyH_take (i := 6) (oi := _) (v := _) rfl (by kernel_rfl) (by kernel_rfl) (by kernel_rfl) (fun _ _ _ h => h) (Or.inl ⟨by rfl, ?hz7⟩) (by assumption) ?rezt7
  case hz7 => (intro w' hSw; (try dsimp only at hSw); go_simp; try with_reducible rfl)
  try simp only [Act.put, List.setIfInBounds_toArray, List.set_cons_zero, List.set_cons_succ, List.getElem_toArray, List.getElem_cons_zero, List.getElem_cons_succ]
  refine' wpAnyH_take (i := 7) (oi := _) (v := _) rfl (by kernel_rfl) (by kernel_rfl) (by kernel_rfl) (fun _ _ _ h => h) (Or.inl ⟨by rfl, ?hz8⟩) (by assumption) ?rezt8
  case hz8 => (intro w' hSw; (try dsimp only at hSw); go_simp; try with_reducible rfl)
  try simp only [Act.put, List.setIfInBounds_toArray, List.set_cons_zero, List.set_cons_succ, List.getElem_toArray, List.getElem_cons_zero, List.getElem_cons_succ]
  refine' wpAnyH_take (i := 8) (oi := _) (v := _) rfl (by kernel_rfl) (by kernel_rfl) (by kernel_rfl) (fun _ _ _ h => h) (Or.inl ⟨by rfl, ?hz9⟩) (by assumption) ?rezt9
  case hz9 => (intro w' hSw; (try dsimp only at hSw); go_simp; try with_reducible rfl)
  try simp only [Act.put, List.setIfInBounds_toArray, List.set_cons_zero, List.set_cons_succ, List.getElem_toArray, List.getElem_cons_zero, List.getElem_cons_succ]
  refine' wpAnyH_take (i := 9) (oi := _) (v := _) rfl (by kernel_rfl) (by kernel_rfl) (by kernel_rfl) (fun _ _ _ h => h) (Or.inl ⟨by rfl, ?hz10⟩) (by assumption) ?rezt10
  case hz10 => (intro w' hSw; (try dsimp only at hSw); go_simp; try with_reducible rfl)
  try simp only [Act.put, List.setIfInBounds_toArray, List.set_cons_zero, List.set_cons_succ, List.getElem_toArray, List.getElem_cons_zero, List.getElem_cons_succ]
  refine' wpAnyH_take (i := 10) (oi := _) (v := _) rfl (by kernel_rfl) (by kernel_rfl) (by kernel_rfl) (fun _ _ _ h => h) (Or.inl ⟨by rfl, ?hz11⟩) (by assumption) ?rezt11
  case hz11 => (intro w' hSw; (try dsimp only at hSw); go_simp; try with_reducible rfl)
  try simp only [Act.put, List.setIfInBounds_toArray, List.set_cons_zero, List.set_cons_succ, List.getElem_toArray, List.getElem_cons_zero, List.getElem_cons_succ]
  refine' wpAnyH_take (i := 11) (oi := _) (v := _) rfl (by kernel_rfl) (by kernel_rfl) (by kernel_rfl) (fun _ _ _ h => h) (Or.inl ⟨by rfl, ?hz12⟩) (by assumption) ?rezt12
  case hz12 => (intro w' hSw; (try dsimp only at hSw); go_simp; try with_reducible rfl)
  try simp only [Act.put, List.setIfInBounds_toArray, List.set_cons_zero, List.set_cons_succ, List.getElem_toArray, List.getElem_cons_zero, List.getElem_cons_succ]
  refine wpAnyH_done (by kernel_rfl) ?_ _
  clear e1 e2 K0 K1
  have hbd : Below w.heap.size w w.drew := (Below.refl _ w).drew
  have HPd := Lib.hid (HP.out.keep hbd)
  clear HP
  obtain ⟨wd, hwd⟩ : ∃ W, W = w.drew := ⟨_, rfl⟩
  rw [← hwd] at HPd hbd ⊢
  clear hwd
  go_wp2_with fail
  refine (pmany_any _ g gb c M.h L X HPd.out (by rw [HI.out.len]; omega)).mono ?_
  rintro e w1 ⟨rfl, rfl⟩
  rw [HMN.out]
  go_wp2_with fail
  go_loop [3, 20] (fun t i => ∃ j : Nat, j ≤ M.k ∧ i = .int .i64 j ∧ t = .int .i64 ((M.n : Int) - (M.h : Int) - 2 - (takenC (M.C.take j) : Int))) (fun _ i => M.k - (intOf i).toNat)
  case atStart => exact ⟨0, Nat.zero_le _, rfl, by simp [takenC]⟩
  case round =>
    obtain ⟨j, hj, rfl, rfl⟩ := hrel
    by_cases hlt : j < M.k
    · have hst := takenC_take (C := M.C) (i := j) hlt
      have hcl : M.C.getD j [] = M.cl j := rfl
      rw [hcl] at hst
      clear hcl
      have HST := Lib.hid hst
      have hq := HG.out.hi j hlt
      have htk := takenC_le (C := M.C.take j) 4096 (fun d hd => HG.out.clen d (List.mem_of_mem_take hd))
      have htl : (M.C.take j).length ≤ 2047 := by rw [List.length_take]; show min j M.k ≤ 2047; omega
      have htk2 : takenC (M.C.take j) ≤ 8400000 := by
        have : (4 + 4096) * (M.C.take j).length ≤ 4100 * 2047 := Nat.mul_le_mul_left _ htl
        omega
      obtain ⟨q, hq'⟩ : ∃ q, M.pl j = q := ⟨_, rfl⟩
      have HS := Lib.hid (HI.out.slots j hlt)
      have HLE := Lib.hid (HI.out.lens j hlt)
      obtain ⟨t, ht⟩ : ∃ t, takenC (M.C.take j) = t := ⟨_, rfl⟩
      obtain ⟨m, hm⟩ : ∃ m, (M.cl j).length = m := ⟨_, rfl⟩
      rw [hm, ht] at HST
      rw [hq'] at HS HLE hq
      rw [hm] at HLE hq
      rw [ht] at htk2 ⊢
      have hj1 : (j : Int) ≤ 70000 := by omega
      have hlt' : (j : Int) < (M.k : Int) := by omega
      clear hst hq' ht htk htl hm
      go_wp2_with fail
      refine (pspan_any _ g gb c M.h L X HPd.out hh j q (by rw [HI.out.len]; omega) (by rw [HI.out.len]; exact hn1) HS.out (by rw [HI.out.len]; omega)).mono ?_
      rintro e w1 ⟨rfl, rfl⟩
      rw [HLE.out]
      go_wp2_with fail
      go_round
      case rel => exact ⟨j + 1, by omega, by go_num, by rw [HST.out]; congr 1; omega⟩
      case measure => simp [intOf]; omega
    · obtain rfl : j = M.k := by omega
      have ht : (M.n : Int) - (M.h : Int) - 2 - (takenC (M.C.take M.k) : Int) = M.left := by unfold Mdl.left Mdl.k; rw [List.take_length]
      rw [ht]
      clear ht
      go_wp2_with fail
      go_ret
      exact ⟨rfl, hbd⟩
end
section
open Go.RowKit
set_option maxRecDepth 100000
set_option linter.unusedVariables false
set_option linter.unusedSimpArgs false
set_option linter.unnecessarySimpa false
set_option maxHeartbeats 4000000 in
theorem pclone_any (w : World) (A : Option Addr) (n c : Nat) (l : List Int) (hl : l.length = n) (hn : n ≤ 1000000) (hnil : A = none → n = 0 ∧ c = 0) (hA : Rd w A l) :
    Calls Try.prog 63 #[.slice A n c] w (BytesBack w l) := by
  have HL := Lib.hid hl
  have HA := Lib.hid hA
  clear hA
  have hq := Lib.run_eql_slice_nil (P := Try.prog) w 29 5 A n c 0 0 Try.underlying29
  cases A with
  | none =>
    obtain ⟨rfl, rfl⟩ := hnil rfl
    obtain rfl : l = [] := List.eq_nil_of_length_eq_zero hl
    clear hnil hl
    go_enter Try.func63, Try.ntmps63
    go_wp2
    go_ret
    exact ⟨none, 0, 0, rfl, OwnB.nil _ _, Below.refl _ _⟩
  | some a =>
    clear hnil hl
    have hba : Below w.heap.size w (w.alloc (.cells #[] 5)) := (Below.refl _ _).alloc (Nat.le_refl _) _
    go_enter Try.func63, Try.ntmps63
    go_upto_region 3 with fail
    iterate 7 go_step
    refine wp_append rfl (.tmp 5) (.tmp 6) rfl w.heap.size _ _ _ [] rfl (OwnB.lit w #[] [] _ 0 rfl rfl (Nat.le_refl _) (by decide)) (some a) n c l rfl HL.out (HA.out.keep hba) (by omega) (by simp) ?_
    intro A2 c2 w2 hown2 _ hb2'
    simp only [List.nil_append, Nat.zero_add] at hown2 ⊢
    have hb2 : Below w.heap.size w w2 := hba.trans hb2'
    have HO := Lib.hid hown2
    clear hown2 hb2' hba
    go_wp2
    go_ret
    exact ⟨A2, n, c2, rfl, HO.out, hb2⟩

set_option maxHeartbeats 4000000 in
theorem pMany_any (w : World) (g gb c : Nat) (L : List Int) (X : List Value) (M : Mdl) (hp : Pg w g gb c M.h L X) (hi : IsP L M) (hg : Good M) :
    Calls Try.prog 22 #[.pointer (some ⟨g, 0, none⟩)] w fun e w' => e = .returned (.int .i64 (M.k : Int)) ∧ w = w' := by
  have HP := Lib.hid hp
  have HMN := Lib.hid hi.many
  have hf : M.h + 2 ≤ L.length := by have := hg.fit; unfold Mdl.used at this; rw [hi.len]; omega
  have hk := hg.kle
  clear hp hi hg
  go_enter Try.func22, Try.ntmps22
  go_wp2_with fail
  refine (pmany_any _ g gb c M.h L X HP.out hf).mono ?_
  rintro e w1 ⟨rfl, rfl⟩
  rw [HMN.out]
  go_wp2_with fail
  go_ret
  exact ⟨rfl, rfl⟩

def Mdl.room (M : Mdl) : Int := if M.left < 4 then -1 else M.left - 4
theorem left_bd {M : Mdl} (g : Good M) : -8400000 ≤ M.left ∧ M.left ≤ 4096 := by
  have h1 := takenC_le (C := M.C) 4096 g.clen
  have h2 := g.kle
  have h3 := g.n1
  have h4 := g.h1
  have h5 : (4 + 4096) * M.C.length ≤ 4100 * 2047 := Nat.mul_le_mul_left _ h2
  have h6 := g.n0
  unfold Mdl.left
  omega

set_option maxHeartbeats 4000000 in
theorem pBytes_any (w : World) (g gb c h : Nat) (L : List Int) (X : List Value) (hp : Pg w g gb c h L X) (hn : L.length ≤ 4096) :
    Calls Try.prog 26 #[.pointer (some ⟨g, 0, none⟩)] w (BytesBack w L) := by
  have HP := Lib.hid hp
  have m0 := hp.m0
  clear hp
  go_enter Try.func26, Try.ntmps26
  go_wp2_with fail
  refine (pclone_any _ (some ⟨gb, 0, none⟩) L.length c L rfl (by omega) (fun h => by cases h) HP.out.rd).mono ?_
  rintro e w1 ⟨A, n, d, rfl, hown, hb⟩
  have HO := Lib.hid hown
  clear hown
  go_wp2_with fail
  go_ret
  exact ⟨A, n, d, rfl, HO.out, hb⟩

theorem run_cut3 (A : Option Addr) (n c lo m : Nat) (h : lo + m ≤ c) (w : World) :
    (Instr.slice 29 (.slice A n c) (some (.int .i64 (lo : Int))) (some (.int .i64 ((lo : Int) + (m : Int)))) (some (.int .i64 ((lo : Int) + (m : Int))))).run Try.prog w = .ok (.slice (cutA A (lo + m) lo) m m) w := by
  rw [run_slice_lhm w 29 A n c Try.underlying29 .i64 .i64 .i64 (lo : Int) ((lo : Int) + (m : Int)) ((lo : Int) + (m : Int)) (by omega) (by omega) (by omega) (by omega)]
  have e : (sizeOf (Try.prog.elem 29)).run Try.prog w = .ok 1 w := by kernel_rfl
  have e2 : ((lo : Int) + (m : Int)).toNat = lo + m := by omega
  rw [e]
  simp only [Result.andThen, sliced, Int.toNat_natCast, e2, cutA, Nat.mul_one]
  rw [show lo + m - lo = m by omega]
def CellBack (w : World) (l : List Int) (z : Int) (e : Ending) (w' : World) : Prop := ∃ A n c, e = .returned (.tuple #[.slice A n c, .int .i64 z]) ∧ OwnB w' w.heap.size A n c l ∧ Below w.heap.size w w'

set_option maxHeartbeats 8000000 in
theorem pCell_any (w : World) (g gb c : Nat) (L : List Int) (X : List Value) (M : Mdl) (hp : Pg w g gb c M.h L X) (hi : IsP L M) (hg : Good M) (i : Int) (i0 : -9223372036854775808 ≤ i) (i1 : i ≤ 9223372036854775807) (R : Ending → World → Prop) (hR : R = CellBack w (if 0 ≤ i ∧ i < (M.k : Int) then M.cl i.toNat else []) (if 0 ≤ i ∧ i < (M.k : Int) then 0 else 1)) :
    Calls Try.prog 21 #[.pointer (some ⟨g, 0, none⟩), .int .i64 i] w R := by
  have HR := Lib.hid hR; clear hR
  have HP := Lib.hid hp
  have HI := Lib.hid hi
  have HG := Lib.hid hg
  have HMN := Lib.hid hi.many
  have hf : M.h + 2 ≤ L.length := by have := hg.fit; unfold Mdl.used at this; rw [hi.len]; omega
  have hk := hg.kle
  have hh := hg.h1
  have hn1 := hg.n1
  have hlc := hp.len
  rw [hi.len] at hlc
  have m0 := hp.m0
  rw [hi.len] at m0
  have hfit := hg.fit
  unfold Mdl.used at hfit
  clear hp hi hg
  by_cases hin : 0 ≤ i ∧ i < (M.k : Int)
  rotate_left
  · have HR' := Lib.hid (show R = CellBack w [] 1 by rw [HR.out, if_neg hin, if_neg hin])
    clear HR
    by_cases hneg : i < 0
    · clear hin
      go_enter Try.func21, Try.ntmps21
      go_wp2_with fail
      rw [HR'.out]
      exact ⟨none, 0, 0, rfl, OwnB.nil _ _, Below.refl _ _⟩
    · have h1 : (M.k : Int) ≤ i := by omega
      clear hin
      go_enter Try.func21, Try.ntmps21
      go_wp2_with fail
      refine (pmany_any _ g gb c M.h L X HP.out hf).mono ?_
      rintro e w1 ⟨rfl, rfl⟩
      rw [HMN.out]
      go_wp2_with fail
      rw [HR'.out]
      exact ⟨none, 0, 0, rfl, OwnB.nil _ _, Below.refl _ _⟩
  · obtain ⟨j, rfl⟩ := Int.eq_ofNat_of_zero_le hin.1
    have HR' := Lib.hid (show R = CellBack w (M.cl j) 0 by rw [HR.out, if_pos hin, if_pos hin, Int.toNat_natCast])
    have hj : j < M.k := by omega
    clear HR hin
    have hq := HG.out.hi j hj
    have HS := Lib.hid (HI.out.slots j hj)
    have HLE := Lib.hid (HI.out.lens j hj)
    obtain ⟨q, hq'⟩ : ∃ q, M.pl j = q := ⟨_, rfl⟩
    obtain ⟨l, hl⟩ : ∃ l, M.cl j = l := ⟨_, rfl⟩
    have hbody : (L.drop (q + 2)).take l.length = l := by
      have hb := HI.out.body j hj
      rw [hq', hl] at hb
      rw [hq', hl] at hq
      refine eq_of_bt (by simp [HI.out.len]; omega) fun t ht => ?_
      have ht' : t < l.length := by simp [HI.out.len] at ht; omega
      rw [← hb t ht']
      simp [bt, ht']
    rw [hl] at HR' HLE hq
    rw [hq'] at HS HLE hq
    obtain ⟨m, hm⟩ : ∃ m, l.length = m := ⟨_, rfl⟩
    rw [hm] at HLE hq hbody
    have HM := Lib.hid hm
    have HBY := Lib.hid hbody
    have hlt : (j : Int) < (M.k : Int) := by omega
    clear hq' hl hm hbody
    have hcut := run_cut3 (some ⟨gb, 0, none⟩) M.n c (q + 2) m (by omega)
    rw [show ((q + 2 : Nat) : Int) = (q : Int) + 2 by omega] at hcut
    obtain ⟨D, hD⟩ : ∃ D, cutA (some ⟨gb, 0, none⟩) (q + 2 + m) (q + 2) = D := ⟨_, rfl⟩
    have hrd : Rd w D l := by
      by_cases h0 : m = 0
      · exact .inl (List.eq_nil_of_length_eq_zero (by rw [HM.out, h0]))
      · rw [← hD]
        unfold cutA
        rw [if_neg (by omega)]
        have h2 := rd_take' (rd_off' HP.out.rd (q + 2)) m
        rw [HBY.out] at h2
        simpa [Addr.add_lit] using h2
    have hnn : D = none → m = 0 ∧ m = 0 := by
      intro h
      rw [h] at hD
      unfold cutA at hD
      split at hD <;> simp at hD
    rw [hD] at hcut
    have HRD := Lib.hid hrd
    have HNN := Lib.hid hnn
    clear hD hrd hnn
    go_enter Try.func21, Try.ntmps21
    go_wp2_with fail
    refine (pmany_any _ g gb c M.h L X HP.out hf).mono ?_
    rintro e w1 ⟨rfl, rfl⟩
    rw [HMN.out]
    go_wp2_with fail
    refine (pspan_any _ g gb c M.h L X HP.out hh j q (by rw [HI.out.len]; omega) (by rw [HI.out.len]; exact hn1) HS.out (by rw [HI.out.len]; omega)).mono ?_
    rintro e w1 ⟨rfl, rfl⟩
    rw [HLE.out]
    go_wp2_with fail
    refine (pclone_any _ D m m l HM.out (by omega) HNN.out HRD.out).mono ?_
    rintro e w1 ⟨A, n, d, rfl, hown, hb⟩
    have HO := Lib.hid hown
    clear hown
    go_wp2_with fail
    rw [HR'.out]
    exact ⟨A, n, d, rfl, HO.out, hb⟩
end
section
open Go.RowKit
set_option maxRecDepth 100000
set_option linter.unusedVariables false
set_option linter.unusedSimpArgs false
set_option linter.unnecessarySimpa false
def mayP (n h : Int) : Prop := 256 ≤ n ∧ n ≤ 4096 ∧ 0 ≤ h ∧ h ≤ 64
instance (n h : Int) : Decidable (mayP n h) := by unfold mayP; infer_instance
set_option maxHeartbeats 4000000 in
theorem pmay_any (w : World) (n h : Int) (hn : -9223372036854775808 ≤ n ∧ n ≤ 9223372036854775807) (hh : -9223372036854775808 ≤ h ∧ h ≤ 9223372036854775807) :
    Calls Try.prog 55 #[.int .i64 n, .int .i64 h] w fun e w' => e = .returned (.bool (decide (mayP n h))) ∧ w = w' := by
  have key : ∀ b : Bool, (b = true ↔ mayP n h) → decide (mayP n h) = b := by
    intro b hb
    by_cases hm : mayP n h
    · rw [decide_eq_true hm, hb.2 hm]
    · rw [decide_eq_false hm]
      cases b with
      | true => exact absurd (hb.1 rfl) hm
      | false => rfl
  have HK := Lib.hid key
  clear key
  rcases (by omega : n < 256 ∨ (256 ≤ n ∧ 4096 < n) ∨ (256 ≤ n ∧ n ≤ 4096 ∧ h < 0) ∨ (256 ≤ n ∧ n ≤ 4096 ∧ 0 ≤ h ∧ 64 < h) ∨ (256 ≤ n ∧ n ≤ 4096 ∧ 0 ≤ h ∧ h ≤ 64)) with h1 | ⟨h1, h2⟩ | ⟨h1, h2, h3⟩ | ⟨h1, h2, h3, h4⟩ | ⟨h1, h2, h3, h4⟩
  rotate_right
  · rw [HK.out true (by unfold mayP; simp; omega)]
    go_enter Try.func55, Try.ntmps55
    go_wp2_with fail
    go_ret
    refine ⟨?_, rfl⟩
    first | rfl | exact ret_bool (by simp; omega)
  all_goals
    rw [HK.out false (by unfold mayP; simp; omega)]
    go_enter Try.func55, Try.ntmps55
    go_wp2_with fail
    go_ret
    refine ⟨?_, rfl⟩
    first | rfl | exact ret_bool (by simp; omega)

theorem zrs_list (n : Nat) : zrs n = (vb (List.replicate n 0) ++ []).toArray := by
  apply Array.ext'
  rw [List.append_nil]
  apply List.ext_getElem?
  intro i
  by_cases h : i < n
  · rw [Array.getElem?_toList, zrs_get h]
    simp [vb, h]
  · rw [List.getElem?_eq_none (by rw [Array.length_toList, zrs_size]; omega), List.getElem?_eq_none (by simp [vb]; omega)]
theorem isB_zeros (n : Nat) : IsB (List.replicate n 0) := by
  intro x hx
  rw [List.eq_of_mem_replicate hx]
  omega
def NewBack (w : World) (n h : Int) (e : Ending) (w' : World) : Prop :=
  Below w.heap.size w w' ∧ ((¬ mayP n h ∧ e = .returned (.tuple #[.pointer none, .int .i64 1])) ∨ (mayP n h ∧ ∃ g gb, e = .returned (.tuple #[.pointer (some ⟨g, 0, none⟩), .int .i64 0]) ∧ w.heap.size ≤ g ∧ w.heap.size ≤ gb ∧ Pg w' g gb n.toNat h.toNat (List.replicate n.toNat 0) []))
set_option maxHeartbeats 4000000 in
theorem pNew_any (w : World) (n h : Int) (hn : -9223372036854775808 ≤ n ∧ n ≤ 9223372036854775807) (hh : -9223372036854775808 ≤ h ∧ h ≤ 9223372036854775807) (R : Ending → World → Prop) (hR : R = NewBack w n h) :
    Calls Try.prog 17 #[.int .i64 n, .int .i64 h] w R := by
  have HR := Lib.hid hR; clear hR
  by_cases hm : mayP n h
  · have HM := Lib.hid hm
    obtain ⟨h1, h2, h3, h4⟩ := hm
    obtain ⟨N, rfl⟩ := Int.eq_ofNat_of_zero_le (show 0 ≤ n by omega)
    obtain ⟨H, rfl⟩ := Int.eq_ofNat_of_zero_le h3
    have hmk := run_mk N N (Nat.le_refl _) (by omega)
    go_enter Try.func17, Try.ntmps17
    go_wp2_with fail
    refine (pmay_any _ (N : Int) (H : Int) hn hh).mono ?_
    rintro e w1 ⟨rfl, rfl⟩
    simp only [decide_eq_true HM.out]
    go_wp2_with fail
    rw [HR.out]
    refine ⟨((Below.refl _ _).alloc (Nat.le_refl _) _).alloc (by simp) _, .inr ⟨HM.out, w.heap.size + 1, w.heap.size, rfl, by omega, Nat.le_refl _, ?_⟩⟩
    rw [Int.toNat_natCast, Int.toNat_natCast]
    refine ⟨?_, ?_, by simp, by unfold maxLen; omega, isB_zeros N⟩
    · have e := heap_alloc_new (w.alloc (.cells (zrs N) 5)) (.cells #[.slice (some ⟨w.heap.size, 0, none⟩) N N, .int .i64 (H : Int)] 91)
      have es : (w.alloc (.cells (zrs N) 5)).heap.size = w.heap.size + 1 := by simp
      rw [es] at e
      rw [List.length_replicate]
      exact e
    · unfold Row
      rw [Below.heap_alloc _ _ _ (by simp), ← zrs_list]
      exact heap_alloc_new w _
  · have HM := Lib.hid hm
    clear hm
    go_enter Try.func17, Try.ntmps17
    go_wp2_with fail
    refine (pmay_any _ n h hn hh).mono ?_
    rintro e w1 ⟨rfl, rfl⟩
    simp only [decide_eq_false HM.out]
    go_wp2_with fail
    rw [HR.out]
    exact ⟨Below.refl _ _, .inl ⟨HM.out, rfl⟩⟩
end
section
open Go.RowKit
set_option maxRecDepth 100000
set_option linter.unusedVariables false
set_option linter.unusedSimpArgs false
set_option linter.unnecessarySimpa false
/-- A slice's address reads as these cells; its block is none of the bad ones. -/
def RdG (w : World) (bad : List Nat) (A : Option Addr) (vs : List Value) : Prop :=
  vs = [] ∨ ∃ b off, A = some ⟨b, off, none⟩ ∧ b ∉ bad ∧ ∀ i u, vs[i]? = some u → w.cell? ⟨b, off + i, none⟩ = some u
theorem RdG.nil (w : World) (bad : List Nat) (A : Option Addr) : RdG w bad A [] := .inl rfl
theorem RdG.keep {w w' : World} {bad : List Nat} {A : Option Addr} {vs : List Value} (h : RdG w bad A vs) (hb : Below w.heap.size w w') : RdG w' bad A vs := by
  rcases h with h | ⟨b, off, rfl, hn, h⟩
  · exact .inl h
  · exact .inr ⟨b, off, rfl, hn, fun i u hu => (hb.cell (p := ⟨b, off + i, none⟩) (World.block_lt_of_cell? w _ (h i u hu))).trans (h i u hu)⟩
theorem RdG.mut {w w' : World} {bad : List Nat} {A : Option Addr} {vs : List Value} {gb : Nat} (h : RdG w bad A vs) (hm : Mut w gb w') (hg : gb ∈ bad) : RdG w' bad A vs := by
  rcases h with h | ⟨b, off, rfl, hn, h⟩
  · exact .inl h
  · refine .inr ⟨b, off, rfl, hn, fun i u hu => ?_⟩
    have h1 := h i u hu
    have hne : b ≠ gb := fun e => hn (e ▸ hg)
    have h2 := hm.block b (World.block_lt_of_cell? w ⟨b, off + i, none⟩ h1) hne
    rw [← h1]
    simp [World.cell?, h2]
theorem RdG.take {w : World} {bad : List Nat} {A : Option Addr} {vs : List Value} (h : RdG w bad A vs) (k : Nat) : RdG w bad A (vs.take k) := by
  rcases h with rfl | ⟨b, off, rfl, hn, h⟩
  · exact .inl (by simp)
  · refine .inr ⟨b, off, rfl, hn, fun i u hu => h i u ?_⟩
    rw [List.getElem?_take] at hu
    split at hu
    · exact hu
    · cases hu
theorem RdG.cut {w : World} {bad : List Nat} {A : Option Addr} {vs : List Value} (h : RdG w bad A vs) (c lo : Nat) (hc : vs.length ≤ c) : RdG w bad (cutA A c lo) (vs.drop lo) := by
  unfold cutA
  split
  · rename_i e
    exact .inl (List.drop_of_length_le (by omega))
  · rcases h with rfl | ⟨b, off, rfl, hn, h⟩
    · exact .inl (by simp)
    · refine .inr ⟨b, off + lo, by simp [Addr.add], hn, fun i u hu => ?_⟩
      rw [List.getElem?_drop] at hu
      rw [Nat.add_assoc]
      exact h (lo + i) u hu
theorem RdG.rd {w : World} {bad : List Nat} {A : Option Addr} {l : List Int} (h : RdG w bad A (vb l)) : Rd w A l := by
  rcases h with h | ⟨b, off, rfl, hn, h⟩
  · exact .inl (by simpa [vb] using h)
  · exact .inr ⟨b, off, rfl, fun i hi => h i _ (by rw [bt_lt hi]; simp [vb, hi])⟩
theorem RdG.at {w : World} {bad : List Nat} {A : Option Addr} {vs : List Value} (h : RdG w bad A vs) (hl : 0 < vs.length) : ∃ b off, A = some ⟨b, off, none⟩ ∧ ∀ i u, vs[i]? = some u → w.cell? ⟨b, off + i, none⟩ = some u := by
  rcases h with rfl | ⟨b, off, rfl, hn, h⟩
  · simp at hl
  · exact ⟨b, off, rfl, h⟩
/-- A row of one-cell things that the call owns. -/
def OwnG (E : TypeId) (w : World) (base : Nat) (A : Option Addr) (n c : Nat) (vs : List Value) : Prop := vs.length = n ∧ w.ownsRow base E 1 (.slice A n c) n vs
theorem ownG_keep {w w' : World} {base s : Nat} {E : TypeId} {v : Value} {n : Nat} {cs : List Value} (h : w.ownsRow base E s v n cs) (hb : Below w.heap.size w w') : w'.ownsRow base E s v n cs := by
  refine ⟨h.1, ?_⟩
  rcases h.2 with hv | ⟨g, cap, cur, hv, hbg, hg, rest⟩
  · exact .inl hv
  · exact .inr ⟨g, cap, cur, hv, hbg, (hb.block g (Array.getElem?_eq_some_iff.1 hg).1).trans hg, rest⟩
theorem OwnG.keep {E : TypeId} {w w' : World} {base : Nat} {A : Option Addr} {n c : Nat} {vs : List Value} (h : OwnG E w base A n c vs) (hb : Below w.heap.size w w') : OwnG E w' base A n c vs := ⟨h.1, ownG_keep h.2 hb⟩
theorem OwnG.mono {E : TypeId} {w : World} {base base' : Nat} {A : Option Addr} {n c : Nat} {vs : List Value} (h : OwnG E w base A n c vs) (hb : base' ≤ base) : OwnG E w base' A n c vs := by
  refine ⟨h.1, h.2.1, ?_⟩
  rcases h.2.2 with hv | ⟨g, cap, cur, hv, hbg, rest⟩
  · exact .inl hv
  · exact .inr ⟨g, cap, cur, hv, by omega, rest⟩
theorem OwnG.alloc {E : TypeId} {w : World} {base : Nat} {A : Option Addr} {n c : Nat} {vs : List Value} (h : OwnG E w base A n c vs) (o : Obj) : OwnG E (w.alloc o) base A n c vs := ⟨h.1, World.ownsRow.alloc h.2 o⟩
theorem OwnG.nil (E : TypeId) (w : World) (base : Nat) : OwnG E w base none 0 0 [] := ⟨rfl, World.ownsRow_nil w base _ _⟩
theorem OwnG.lit (E : TypeId) (w : World) (base : Nat) (hb : base ≤ w.heap.size) : OwnG E (w.alloc (.cells #[] E)) base (some ⟨w.heap.size, 0, none⟩) 0 0 [] := by
  refine ⟨rfl, by simp, .inr ⟨w.heap.size, 0, #[], rfl, hb, heap_alloc_new w _, Nat.le_refl _, by unfold maxLen; omega, by simp, by simp⟩⟩
theorem OwnG.cap {E : TypeId} {w : World} {base : Nat} {A : Option Addr} {n c : Nat} {vs : List Value} (h : OwnG E w base A n c vs) : n ≤ c ∧ c ≤ maxLen := by
  rcases h.2.2 with ⟨hv, hn⟩ | ⟨g, cap, cur, hv, _, _, h1, h2, _⟩
  · injection hv with e1 e2 e3
    subst e3
    exact ⟨by omega, by unfold maxLen; omega⟩
  · injection hv with e1 e2 e3
    subst e3
    exact ⟨h1, h2⟩
theorem OwnG.rd {E : TypeId} {w : World} {base : Nat} {A : Option Addr} {n c : Nat} {vs : List Value} (h : OwnG E w base A n c vs) {bad : List Nat} (hb : ∀ g ∈ bad, g < base) : RdG w bad A vs := by
  obtain ⟨h1, hown⟩ := h
  rcases hown.2 with ⟨hv, hn⟩ | ⟨g, cap, cur, hv, hbg, _⟩
  · subst hn
    exact .inl (List.eq_nil_of_length_eq_zero h1)
  · injection hv with e1 e2 e3
    subst e1
    refine .inr ⟨g, 0, rfl, fun hm => by have := hb g hm; omega, fun i u hu => ?_⟩
    have q := World.ownsRow.cells hown (g := g) rfl i u hu
    simpa [Addr.add_lit] using q
/-- An append writes the row it appends to, and no other block of old; where the row lies then. -/
def Kept (w : World) (A : Option Addr) (w' : World) (A' : Option Addr) : Prop :=
  (∀ k, k < w.heap.size → (∀ a, A = some a → a.block ≠ k) → w'.heap[k]? = w.heap[k]?) ∧ (∀ a', A' = some a' → (∃ a, A = some a ∧ a.block = a'.block) ∨ a'.block = w.heap.size)
theorem there_keepR {w w' : World} {B g n : Nat} (h : w.there g 0 n) (hb : Below B w w') (hg : g < B) : w'.there g 0 n := fun j hj =>
  ⟨by rw [hb.cell (p := ⟨g, 0 + j, none⟩) hg]; exact (h j hj).1, by rw [hb.frozen (p := ⟨g, 0 + j, none⟩) hg]; exact (h j hj).2⟩
theorem below_setCellsR {B : Nat} {w w' : World} (h : Below B w w') {b : Nat} (hb : B ≤ b) : ∀ (o : Nat) (vs : List Value), Below B w (w'.setCells b o vs)
  | _, [] => h
  | o, _ :: r => below_setCellsR (h.setCell hb _) hb (o + 1) r
theorem heap_setCells_ne (b : Nat) : ∀ (vs : List Value) (o : Nat) (w : World) {i : Nat}, i ≠ b → (w.setCells b o vs).heap[i]? = w.heap[i]?
  | [], _, _, _, _ => rfl
  | v :: r, o, w, i, h => by
    show ((w.setCell ⟨b, o, none⟩ v).setCells b (o + 1) r).heap[i]? = _
    rw [heap_setCells_ne b r (o + 1) _ h]
    simp [World.setCell, Array.getElem?_modify, Ne.symm h]
end
end Go.Proofs.Ytoeaffmlolapnaa
