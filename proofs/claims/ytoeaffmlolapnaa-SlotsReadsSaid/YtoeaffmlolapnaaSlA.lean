/- Walks over a page: num, many, slot, span. -/
import Derived.Test.YtoeaffmlolapnaaSlP
namespace Go.Proofs.Ytoeaffmlolapnaa
open Go.RowKit
set_option maxRecDepth 100000
set_option linter.unusedVariables false
set_option linter.unusedSimpArgs false
set_option linter.unnecessarySimpa false

set_option maxHeartbeats 4000000 in
theorem pnum_any (w : World) (g gb c h : Nat) (L : List Int) (X : List Value) (hp : Pg w g gb c h L X) (i : Nat) (hi : i + 2 ≤ L.length) :
    Calls Try.prog 104 #[.pointer (some ⟨g, 0, none⟩), .int .i64 (i : Int)] w fun e w' => e = .returned (.int .i64 (tw L i)) ∧ w = w' := by
  have m0 := hp.m0
  have HP := Lib.hid hp
  have HR := Lib.hid (read2 hp.byts hi)
  obtain ⟨t, ht⟩ : ∃ t, tw L i = t := ⟨_, rfl⟩
  have hbd := tw_bd hp.byts i
  have hlc := hp.len
  rw [ht] at HR hbd ⊢
  have ht0 : IntKind.i64.wrap t = t := IntWalk.i64_in _ (by omega)
  have hi2 : -9223372036854775808 ≤ (i : Int) ∧ (i : Int) ≤ 9223372036854775807 := by omega
  clear ht hp
  go_enter Try.func104, Try.ntmps104
  go_wp2_with fail
  refine (read_any _ (some ⟨gb, 0, none⟩) L.length c L (i : Int) 2 rfl hlc.1 HP.out.most HP.out.rd HP.out.byts hi2).mono ?_
  rintro e w1 ⟨rfl, rfl⟩
  simp only [HR.out]
  go_wp2_with fail
  go_ret
  exact ⟨rfl, rfl⟩

set_option maxHeartbeats 4000000 in
theorem pmany_any (w : World) (g gb c h : Nat) (L : List Int) (X : List Value) (hp : Pg w g gb c h L X) (hi : h + 2 ≤ L.length) :
    Calls Try.prog 61 #[.pointer (some ⟨g, 0, none⟩)] w fun e w' => e = .returned (.int .i64 (tw L h)) ∧ w = w' := by
  have m1 := hp.m1
  have HP := Lib.hid hp
  clear hp
  go_enter Try.func61, Try.ntmps61
  go_wp2_with fail
  refine (pnum_any _ g gb c h L X HP.out h hi).mono ?_
  rintro e w1 ⟨rfl, rfl⟩
  go_wp2_with fail
  go_ret
  exact ⟨rfl, rfl⟩

set_option maxHeartbeats 4000000 in
theorem pslot_any (w : World) (g gb c h : Nat) (L : List Int) (X : List Value) (hp : Pg w g gb c h L X) (hh : h ≤ 64) (i : Int) (i0 : -70000 ≤ i) (i1 : i ≤ 70000) :
    Calls Try.prog 68 #[.pointer (some ⟨g, 0, none⟩), .int .i64 i] w fun e w' => e = .returned (.int .i64 ((h : Int) + 2 + 2 * i)) ∧ w = w' := by
  have m1 := hp.m1
  clear hp
  go_enter Try.func68, Try.ntmps68
  go_wp2_with fail
  go_ret
  exact ⟨rfl, rfl⟩

set_option maxHeartbeats 4000000 in
theorem pspan_any (w : World) (g gb c h : Nat) (L : List Int) (X : List Value) (hp : Pg w g gb c h L X) (hh : h ≤ 64) (i q : Nat) (h1 : h + 2 + 2 * i + 2 ≤ L.length) (hL : L.length ≤ 4096) (hq : tw L (h + 2 + 2 * i) = (q : Int)) (h2 : q + 2 ≤ L.length) :
    Calls Try.prog 62 #[.pointer (some ⟨g, 0, none⟩), .int .i64 (i : Int)] w fun e w' => e = .returned (.tuple #[.int .i64 ((q : Int) + 2), .int .i64 ((q : Int) + 2 + tw L q)]) ∧ w = w' := by
  have HP := Lib.hid hp
  have HQ := Lib.hid hq
  have hbd := tw_bd hp.byts q
  clear hp hq
  have i1 : (i : Int) ≤ 70000 := by omega
  go_enter Try.func62, Try.ntmps62
  go_wp2_with fail
  refine (pslot_any _ g gb c h L X HP.out hh (i : Int) (by omega) i1).mono ?_
  rintro e w1 ⟨rfl, rfl⟩
  have e1 : (h : Int) + 2 + 2 * (i : Int) = ((h + 2 + 2 * i : Nat) : Int) := by omega
  rw [e1]
  clear e1
  go_wp2_with fail
  refine (pnum_any _ g gb c h L X HP.out (h + 2 + 2 * i) h1).mono ?_
  rintro e w1 ⟨rfl, rfl⟩
  rw [HQ.out]
  go_wp2_with fail
  refine (pnum_any _ g gb c h L X HP.out q h2).mono ?_
  rintro e w1 ⟨rfl, rfl⟩
  go_wp2_with fail
  go_ret2
  exact ⟨rfl, rfl⟩

/-! ### copy onto a page -/
theorem run_copy_pg (w : World) (gb lo dLen dCap c : Nat) (L cs : List Int) (X : List Value) (hr : Row w gb L X) (hc : L.length + X.length = c) (hd : lo + dLen ≤ L.length) (sp : Option Addr) (sLen sCap : Nat) (hs : cs.length = sLen) (hle : sLen ≤ dLen) (hrd : Rd w sp cs) (ty : TypeId) :
    ∃ w', (Builtin.copy_ #[29, 29] ty #[.slice (cutA (some ⟨gb, 0, none⟩) c lo) dLen dCap, .slice sp sLen sCap]).run Try.prog w = .ok (goInt cs.length) w' ∧ Row w' gb (splice L lo cs) X ∧ Mut w gb w' := by
  have hsz : (Try.prog.info? 5).map (·.size) = some 1 := by kernel_rfl
  rcases hrd with rfl | ⟨b, off, rfl, hcell⟩
  · have h0 : sLen = 0 := by simpa using hs.symm
    subst h0
    exact ⟨w, run_copy_none (P := Try.prog) w _ _ ty _ _ _ _ _ _ _ Try.underlying29 hsz (by simp), by rw [splice_nil]; exact hr, Mut.refl _ _⟩
  · by_cases h0 : cs.length = 0
    · obtain rfl : cs = [] := List.eq_nil_of_length_eq_zero h0
      have h0 : sLen = 0 := by simpa using hs.symm
      subst h0
      exact ⟨w, run_copy_none (P := Try.prog) w _ _ ty _ _ _ _ _ _ _ Try.underlying29 hsz (by simp), by rw [splice_nil]; exact hr, Mut.refl _ _⟩
    have hcut : cutA (some ⟨gb, 0, none⟩) c lo = some ⟨gb, lo, none⟩ := by
      unfold cutA
      rw [if_neg (by omega)]
      simp [Addr.add_lit]
    rw [hcut]
    have hrun := run_copy_row Try.prog w 29 29 ty 5 gb lo dLen dCap ⟨b, off, none⟩ sLen sCap (vb L ++ X).toArray 5 (vb cs) Try.underlying29 hsz hr (by rw [vb_length, hs]; exact (Nat.min_eq_left hle).symm)
      (fun j v hv => by
        obtain ⟨hj, rfl⟩ := vb_get hv
        rw [Addr.add_lit]
        exact hcell j hj) (by simp [vb_length]; omega) (vb_one cs)
    refine ⟨_, by rw [hrun, vb_length cs], ?_, Mut.row _ _ _⟩
    have h2 := setRow_heap w gb _ ((vb L ++ X).toArray.toList.take lo ++ vb cs ++ (vb L ++ X).toArray.toList.drop (lo + cs.length)).toArray _ _ hr
    unfold Row
    rw [h2]
    congr 3
    rw [← vb_splice L cs X lo (by omega)]
    simp [splice, vb_length]

theorem step_copy_pg {ops : Array Oper} {o : Oper} {a : Act} {w : World} {K : Act → World → Prop} {Q : Exit → Act → World → Prop} {E : Prop} (hgd : o.guard = none) (d s : Operand)
    (ho : o.op = .call { callee := .builtin .copy, args := #[d, s], argTypes := #[29, 29] })
    (gb lo dLen dCap c : Nat) (L cs : List Int) (X : List Value) (hdv : a.eval d = .slice (cutA (some ⟨gb, 0, none⟩) c lo) dLen dCap) (hr : Row w gb L X) (hc : L.length + X.length = c) (hd : lo + dLen ≤ L.length) (sp : Option Addr) (sLen sCap : Nat) (hsv : a.eval s = .slice sp sLen sCap) (hs : cs.length = sLen) (hle : sLen ≤ dLen) (hrd : Rd w sp cs)
    (h : ∀ w', Row w' gb (splice L lo cs) X → Mut w gb w' → K (a.put o.dst (goInt cs.length)) w') :
    if Region.wanted o (yielded ops a.tmps) = true then Oper.wp Try.prog o a w K Q else E := by
  have hw : Region.wanted o (yielded ops a.tmps) = true := by simp [Region.wanted, hgd]
  rw [if_pos hw]
  obtain ⟨w', hrun, h1, h2⟩ := run_copy_pg w gb lo dLen dCap c L cs X hr hc hd sp sLen sCap hs hle hrd o.type
  unfold Oper.wp execOp
  simp only [ho, resolve, invoke, builtin, Sem.run_bind, Sem.run_pure, Result.andThen_ok, List.map_toArray, List.map_cons, List.map_nil, hdv, hsv, hrun]
  exact h w' h1 h2
theorem wp_copy_pg {ops : Array Oper} {rest : List Oper} {o : Oper} {a : Act} {w : World} {Q : Exit → Act → World → Prop} (hgd : o.guard = none) (d s : Operand)
    (ho : o.op = .call { callee := .builtin .copy, args := #[d, s], argTypes := #[29, 29] })
    (gb lo dLen dCap c : Nat) (L cs : List Int) (X : List Value) (hdv : a.eval d = .slice (cutA (some ⟨gb, 0, none⟩) c lo) dLen dCap) (hr : Row w gb L X) (hc : L.length + X.length = c) (hd : lo + dLen ≤ L.length) (sp : Option Addr) (sLen sCap : Nat) (hsv : a.eval s = .slice sp sLen sCap) (hs : cs.length = sLen) (hle : sLen ≤ dLen) (hrd : Rd w sp cs)
    (h : ∀ w', Row w' gb (splice L lo cs) X → Mut w gb w' → wpList Try.prog ops Q rest (a.put o.dst (goInt cs.length)) w') : wpList Try.prog ops Q (o :: rest) a w := by
  obtain ⟨w', hrun, h1, h2⟩ := run_copy_pg w gb lo dLen dCap c L cs X hr hc hd sp sLen sCap hs hle hrd o.type
  refine wpList_plain hgd fun K hK => ?_
  unfold Oper.wp execOp
  simp only [ho, resolve, invoke, builtin, Sem.run_bind, Sem.run_pure, Result.andThen_ok, List.map_toArray, List.map_cons, List.map_nil, hdv, hsv, hrun]
  exact hK _ _ (h w' h1 h2)
end Go.Proofs.Ytoeaffmlolapnaa
