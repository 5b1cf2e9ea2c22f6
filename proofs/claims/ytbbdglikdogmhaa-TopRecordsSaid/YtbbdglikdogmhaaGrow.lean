/- More of append: onto a slice without room, whatever it is; of zeros ('append(b, make([]byte, n)...)'). -/
import Derived.Test.YtbbdglikdogmhaaMem
import Derived.ArgAppend
import Derived.Lib.AppendStr
namespace Go.Proofs.Ytbbdglikdogmhaa
open Go.RowKit
set_option maxRecDepth 100000

def zstr (m : Nat) : ByteArray := ⟨Array.replicate m 0⟩
theorem zstr_size (m : Nat) : (zstr m).size = m := by simp [zstr, ByteArray.size]

theorem zcells (m : Nat) : Builtin.zeroCells (Value.int .u8 0).cells m = ((zstr m).extract 0 m).data.map fun b => Value.int .u8 b.toNat := by
  apply Array.ext
  · simp [Builtin.zeroCells, Value.cells, zstr]
  · intro j h1 h2
    simp [Builtin.zeroCells, Value.cells, zstr, Nat.mod_one]

theorem run_append_make_eq (w : World) (A : Option Addr) (n c m : Nat) (ty : TypeId) (h0 : m ≠ 0) (hnm : n + m ≤ 70368744177664) :
    (Builtin.append_ #[25, 3] ty #[.slice A n c, .int .i64 (m : Int)]).run Try.prog w = (Builtin.append_ #[25, 9] ty #[.slice A n c, .string (zstr m)]).run Try.prog w := by
  obtain ⟨i, hi, hz, hsz, hby⟩ := info_parts info_u8
  have hw : IntKind.i64.wrap (m : Int) = m := IntWalk.i64_in _ (by omega)
  have h1 : ¬ ((m : Int) < 0) := by omega
  have h2 : ¬ (281474976710656 < (m : Int)) := by omega
  have ha : ∀ w, (asInt (.int .i64 (m : Int))).run Try.prog w = .ok (m : Int) w := fun _ => rfl
  have hf : ∀ w, (Builtin.firstCells 1 m (.string (zstr m))).run Try.prog w = .ok (Builtin.zeroCells (Value.int .u8 0).cells m) w := fun w => by rw [zcells]; rfl
  have h3 : ¬ (9223372036854775807 < (n : Int) + (m : Int)) := by omega
  by_cases hr : n + m ≤ c
  · simp [Builtin.append_, run_underlying Try.underlying25, run_underlying Try.underlying3, run_underlying Try.underlying9, sizeOf, typeInfo, hi, hz, hsz, hby, hw, h1, h2, Builtin.lenOf, zstr_size, ha, hf, h0, hr, zeroValue]
  · have h4 : ¬ (281474976710656 < Builtin.nextslicecap (n + m) c) := by
      have := growslice_fits (bytes := 1) (show c < n + m by omega) (by omega)
      omega
    simp [Builtin.append_, run_underlying Try.underlying25, run_underlying Try.underlying3, run_underlying Try.underlying9, sizeOf, typeInfo, hi, hz, hsz, hby, hw, h1, h2, Builtin.lenOf, zstr_size, ha, hf, h3, h0, hr, h4, zeroValue]

theorem strCells_zstr (m : Nat) : Lib.strCells (zstr m) = vb (List.replicate m 0) := by
  simp [Lib.strCells, zstr, vb]

/-- 'append(out, make([]byte, m)...)': out is the call's own. -/
theorem run_append_make (w : World) (base : Nat) (A : Option Addr) (n c : Nat) (l : List Int) (hown : OwnB w base A n c l) (m : Nat) (h0 : m ≠ 0) (hnm : n + m ≤ 70368744177664) (hbase : base ≤ w.heap.size) (ty : TypeId) :
    ∃ A' c' w', (Builtin.append_ #[25, 3] ty #[.slice A n c, .int .i64 (m : Int)]).run Try.prog w = .ok (.slice A' (n + m) c') w' ∧ OwnB w' base A' (n + m) c' (l ++ List.replicate m 0) ∧ Below base w w' := by
  obtain ⟨i, hi, hz, hsz, hby⟩ := info_parts info_u8
  obtain ⟨v', w', hrun, h2, h3, _⟩ := Lib.run_append_own_string (P := Try.prog) w base 25 9 ty 5 i Try.underlying25 Try.underlying9 hi hz hsz hby (.slice A n c) n (vb l) hown (zstr m) (by rw [zstr_size]; unfold maxLen; omega) (by rw [zstr_size]; omega) hbase
  rw [zstr_size] at h2
  have hform : ∃ A' c', v' = .slice A' (n + m) c' := by
    rcases h2.2 with ⟨hv, hn⟩ | ⟨g, cap, cur, hv, _⟩
    · exact ⟨none, 0, by rw [hv, hn]⟩
    · exact ⟨_, _, hv⟩
  obtain ⟨A', c', rfl⟩ := hform
  rw [strCells_zstr, ← vb_append] at h2
  exact ⟨A', c', w', by rw [run_append_make_eq w A n c m ty h0 hnm]; exact hrun, h2, (Below.refl _ _).grown h3 hbase (fun k hk => (World.ownsRow.lt hown k hk).1)⟩

theorem wp_append_make {ops : Array Oper} {rest : List Oper} {o : Oper} {a : Act} {w : World} {Q : Exit → Act → World → Prop} (hgd : o.guard = none) (s x : Operand)
    (ho : o.op = .call { callee := .builtin .append, args := #[s, x], argTypes := #[25, 3] })
    (base : Nat) (A : Option Addr) (n c : Nat) (l : List Int) (hs : a.eval s = .slice A n c) (hown : OwnB w base A n c l) (m : Nat) (hx : a.eval x = .int .i64 (m : Int)) (h0 : m ≠ 0) (hnm : n + m ≤ 70368744177664) (hbase : base ≤ w.heap.size)
    (h : ∀ A' c' w', OwnB w' base A' (n + m) c' (l ++ List.replicate m 0) → Below base w w' → wpList Try.prog ops Q rest (a.put o.dst (.slice A' (n + m) c')) w') : wpList Try.prog ops Q (o :: rest) a w := by
  obtain ⟨A', c', w', hrun, h2, hb⟩ := run_append_make w base A n c l hown m h0 hnm hbase o.type
  refine wpList_plain hgd fun K hK => ?_
  unfold Oper.wp execOp
  simp only [ho, resolve, invoke, builtin, Sem.run_bind, Sem.run_pure, Result.andThen_ok, List.map_toArray, List.map_cons, List.map_nil, hs, hx, hrun]
  exact hK _ _ (h A' c' w' h2 hb)

/-- append onto a slice without room, whatever it is: a new row. -/
theorem run_append_full (w : World) (A : Option Addr) (n c : Nat) (l : List Int) (hl : l.length = n) (hn : 1 ≤ n) (hnc : n ≤ c) (hA : Rd w A l) (B : Option Addr) (m d : Nat) (k : List Int) (hk : k.length = m) (hr : Rd w B k) (hcm : c < n + m) (hbytes : n + m ≤ 140737488355328) (ty : TypeId) :
    ∃ A' c' w', (Builtin.append_ #[25, 25] ty #[.slice A n c, .slice B m d]).run Try.prog w = .ok (.slice A' (n + m) c') w' ∧ OwnB w' w.heap.size A' (n + m) c' (l ++ k) ∧ Below w.heap.size w w' := by
  obtain ⟨i, hi, hz, hsz, hby⟩ := info_parts info_u8
  obtain ⟨b, off, rfl, _, hc⟩ := hA.at (by omega)
  obtain ⟨b2, off2, rfl, _, hc2⟩ := hr.at (by omega)
  have hcells : ∀ (x : List Int) (b off : Nat), (∀ i, i < x.length → w.cell? ⟨b, off + i, none⟩ = some (.int .u8 (bt x i))) → ∀ j u, (vb x)[j]? = some u → w.cell? ((⟨b, off, none⟩ : Addr).add j) = some u := by
    intro x b off hx j u hu
    obtain ⟨hj, rfl⟩ := vb_get hu
    rw [Addr.add_lit]
    exact hx j hj
  obtain ⟨v', w', hrun, h2, h3⟩ := run_append_arg_grows (P := Try.prog) w 25 ty 5 i (.int .u8 0) 1 1 Try.underlying25 hi hz hsz hby rfl (by decide) ⟨b, off, none⟩ n c (vb l) (by rw [vb_length, hl, Nat.mul_one]) (hcells l b off hc) ⟨b2, off2, none⟩ m d (vb k) (by rw [vb_length, hk, Nat.mul_one]) (hcells k b2 off2 hc2) hcm (by unfold maxLen; omega) (by omega)
  have hform : ∃ A' c', v' = .slice A' (n + m) c' := by
    rcases h2.2 with ⟨hv, hn⟩ | ⟨g, cap, cur, hv, _⟩
    · exact ⟨none, 0, by rw [hv, hn]⟩
    · exact ⟨_, _, hv⟩
  obtain ⟨A', c', rfl⟩ := hform
  rw [← vb_append] at h2
  exact ⟨A', c', w', hrun, h2, (Below.refl _ _).grown h3 (Nat.le_refl _) (fun k hk => by cases hk)⟩

theorem wp_append_full {ops : Array Oper} {rest : List Oper} {o : Oper} {a : Act} {w : World} {Q : Exit → Act → World → Prop} (hgd : o.guard = none) (s x : Operand)
    (ho : o.op = .call { callee := .builtin .append, args := #[s, x], argTypes := #[25, 25] })
    (A : Option Addr) (n c : Nat) (l : List Int) (hs : a.eval s = .slice A n c) (hl : l.length = n) (hn : 1 ≤ n) (hnc : n ≤ c) (hA : Rd w A l) (B : Option Addr) (m d : Nat) (k : List Int) (hx : a.eval x = .slice B m d) (hk : k.length = m) (hr : Rd w B k) (hcm : c < n + m) (hbytes : n + m ≤ 140737488355328)
    (h : ∀ A' c' w', OwnB w' w.heap.size A' (n + m) c' (l ++ k) → Below w.heap.size w w' → wpList Try.prog ops Q rest (a.put o.dst (.slice A' (n + m) c')) w') : wpList Try.prog ops Q (o :: rest) a w := by
  obtain ⟨A', c', w', hrun, h2, hb⟩ := run_append_full w A n c l hl hn hnc hA B m d k hk hr hcm hbytes o.type
  refine wpList_plain hgd fun K hK => ?_
  unfold Oper.wp execOp
  simp only [ho, resolve, invoke, builtin, Sem.run_bind, Sem.run_pure, Result.andThen_ok, List.map_toArray, List.map_cons, List.map_nil, hs, hx, hrun]
  exact hK _ _ (h A' c' w' h2 hb)

/-- What can be appended to: the call's own row, or a full one, whosever. -/
def Ext (w : World) (base : Nat) (A : Option Addr) (n c : Nat) (l : List Int) : Prop := OwnB w base A n c l ∨ (n = c ∧ 1 ≤ n ∧ n ≤ maxLen ∧ l.length = n ∧ Rd w A l)
theorem Ext.len {w : World} {base : Nat} {A : Option Addr} {n c : Nat} {l : List Int} (h : Ext w base A n c l) : l.length = n := by
  rcases h with h | h
  · exact h.len
  · exact h.2.2.2.1
theorem Ext.keep {w w' : World} {base : Nat} {A : Option Addr} {n c : Nat} {l : List Int} (h : Ext w base A n c l) (hb : Below w.heap.size w w') : Ext w' base A n c l := by
  rcases h with h | ⟨h1, h2, h3, h4, h5⟩
  · exact .inl (h.keep hb)
  · exact .inr ⟨h1, h2, h3, h4, h5.keep hb⟩
theorem wp_append_ext {ops : Array Oper} {rest : List Oper} {o : Oper} {a : Act} {w : World} {Q : Exit → Act → World → Prop} (hgd : o.guard = none) (s x : Operand)
    (ho : o.op = .call { callee := .builtin .append, args := #[s, x], argTypes := #[25, 25] })
    (base : Nat) (A : Option Addr) (n c : Nat) (l : List Int) (hs : a.eval s = .slice A n c) (hext : Ext w base A n c l) (B : Option Addr) (m d : Nat) (k : List Int) (hx : a.eval x = .slice B m d) (hk : k.length = m) (hm : 1 ≤ m) (hr : Rd w B k) (hbytes : n + m ≤ 140737488355328) (hbase : base ≤ w.heap.size)
    (h : ∀ A' c' w', OwnB w' base A' (n + m) c' (l ++ k) → Below base w w' → wpList Try.prog ops Q rest (a.put o.dst (.slice A' (n + m) c')) w') : wpList Try.prog ops Q (o :: rest) a w := by
  rcases hext with hown | ⟨rfl, h1, _, h4, h5⟩
  · exact wp_append hgd s x ho base A n c l hs hown B m d k hx hk hr hbytes hbase (fun A' c' w' q1 _ q3 => h A' c' w' q1 q3)
  · exact wp_append_full hgd s x ho A n n l hs h4 h1 (Nat.le_refl _) h5 B m d k hx hk hr (by omega) hbytes (fun A' c' w' q1 q3 => h A' c' w' (q1.mono hbase) (q3.mono hbase))
end Go.Proofs.Ytbbdglikdogmhaa
