/- Rows of things of some cells: appended to, kept. (General parts of the texts NdI, NdZ.) -/
import Derived.Test.YtbbdglikdogmhaaGenA
import Derived.Test.YtbbdglikdogmhaaRcH
namespace Go.Proofs.Ytbbdglikdogmhaa
open Go.RowKit
set_option maxRecDepth 100000
set_option linter.unusedVariables false
set_option linter.unusedSimpArgs false
set_option linter.unnecessarySimpa false

theorem there_setG {w : World} {g n : Nat} (h : w.there g 0 n) (a : Addr) (v : Value) : (w.setCell a v).there g 0 n := fun j hj => by
  obtain ⟨h1, h2⟩ := h j hj
  refine ⟨?_, by rw [World.frozen?_setCell]; exact h2⟩
  by_cases e : a = ⟨g, 0 + j, none⟩
  · subst e
    obtain ⟨u, hu⟩ := Option.isSome_iff_exists.1 h1
    rw [World.cell?_setCell_same _ _ _ hu]; rfl
  · rw [World.cell?_setCell_other _ _ _ _ e]; exact h1
theorem heap_setG_ne (w : World) (a : Addr) (v : Value) {i : Nat} (h : i ≠ a.block) : (w.setCell a v).heap[i]? = w.heap[i]? := by
  simp [World.setCell, Array.getElem?_modify, Ne.symm h]
theorem run_append_k (w : World) (T E : TypeId) (ty : TypeId) (z : Value) (s k : Nat) (hT : Try.prog.underlying T = some (.slice E)) (hE : (Try.prog.info? E).map (fun i => (i.zero, i.size, i.bytes)) = some (some z, s, k)) (hz : z.cells.size = s) (hs : 0 < s) (hk : k ≤ 100)
    (base : Nat) (A : Option Addr) (n c : Nat) (vs : List Value) (hown : w.ownsRow base E s (.slice A n c) n vs) (b : Addr) (m d : Nat) (us : List Value) (hu : us.length = m * s) (hcells : ∀ j u, us[j]? = some u → w.cell? (b.add j) = some u) (h1 : ∀ u ∈ us, u.oneCell' = true) (hn : n + m ≤ 1000000000) (hbase : base ≤ w.heap.size) :
    ∃ A' c' w', (Builtin.append_ #[T, T] ty #[.slice A n c, .slice (some b) m d]).run Try.prog w = .ok (.slice A' (n + m) c') w' ∧ w'.ownsRow base E s (.slice A' (n + m) c') (n + m) (vs ++ us) ∧ Below base w w' ∧ Kept w A w' A' := by
  obtain ⟨i, hi, hzz, hsz, hby⟩ := info_parts hE
  have hkb : (n + m) * k ≤ 140737488355328 := by
    have : (n + m) * k ≤ (n + m) * 100 := Nat.mul_le_mul_left _ hk
    omega
  obtain ⟨v', w', hrun, h2, h3, h4, h5⟩ := run_append_own_at (P := Try.prog) w base T ty E i z s k hT hi hzz hsz hby hz hs (.slice A n c) n vs hown b m d us
    hu hcells h1 (by unfold maxLen; omega) hkb hbase
  have hform : ∃ A' c', v' = .slice A' (n + m) c' := by
    rcases h2.2 with ⟨hv, hn⟩ | ⟨g, cap, cur, hv, _⟩
    · exact ⟨none, 0, by rw [hv, hn]⟩
    · exact ⟨_, _, hv⟩
  obtain ⟨A', c', rfl⟩ := hform
  refine ⟨A', c', w', hrun, h2, (Below.refl _ _).grown h3 hbase (fun k hk => (World.ownsRow.lt hown k hk).1), fun k hk hne => h3.block k hk (fun e => ?_), fun a' ha => ?_⟩
  · cases A with
    | none => simp [Value.ownBlock] at e
    | some a => exact hne a rfl (by simpa [Value.ownBlock] using e.symm)
  · subst ha
    rcases h5 with h | h
    · cases A with
      | none => simp [Value.ownBlock] at h
      | some a => exact .inl ⟨a, rfl, by simpa [Value.ownBlock] using h.symm⟩
    · exact .inr (by simpa [Value.ownBlock] using h)
theorem wp_append_k {ops : Array Oper} {rest : List Oper} {o : Oper} {a : Act} {w : World} {Q : Exit → Act → World → Prop} (T E : TypeId) (z : Value) (s k : Nat) (hT : Try.prog.underlying T = some (.slice E)) (hE : (Try.prog.info? E).map (fun i => (i.zero, i.size, i.bytes)) = some (some z, s, k)) (hz : z.cells.size = s) (hs : 0 < s) (hk : k ≤ 100) (hgd : o.guard = none) (x y : Operand)
    (ho : o.op = .call { callee := .builtin .append, args := #[x, y], argTypes := #[T, T] })
    (base : Nat) (A : Option Addr) (n c : Nat) (vs : List Value) (hx : a.eval x = .slice A n c) (hown : w.ownsRow base E s (.slice A n c) n vs) (b : Addr) (m d : Nat) (us : List Value) (hy : a.eval y = .slice (some b) m d) (hu : us.length = m * s) (hcells : ∀ j u, us[j]? = some u → w.cell? (b.add j) = some u) (h1 : ∀ u ∈ us, u.oneCell' = true) (hn : n + m ≤ 1000000000) (hbase : base ≤ w.heap.size)
    (h : ∀ A' c' w', w'.ownsRow base E s (.slice A' (n + m) c') (n + m) (vs ++ us) → Below base w w' → Kept w A w' A' → wpList Try.prog ops Q rest (a.put o.dst (.slice A' (n + m) c')) w') : wpList Try.prog ops Q (o :: rest) a w := by
  obtain ⟨A', c', w', hrun, h2, h3, h4⟩ := run_append_k w T E o.type z s k hT hE hz hs hk base A n c vs hown b m d us hu hcells h1 hn hbase
  refine wpList_plain hgd fun K hK => ?_
  unfold Oper.wp execOp
  simp only [ho, resolve, invoke, builtin, Sem.run_bind, Sem.run_pure, Result.andThen_ok, List.map_toArray, List.map_cons, List.map_nil, hx, hy, hrun]
  exact hK _ _ (h A' c' w' h2 h3 h4)
def blkO : Option Addr → List Nat
  | none => []
  | some a => [a.block]
def TyAt (w : World) (t : Nat) (T : TypeId) : Prop := ∃ cur fr, w.heap[t]? = some (.cells cur T fr)
theorem TyAt.keepB {w w' : World} {t B : Nat} {T : TypeId} (h : TyAt w t T) (hb : Below B w w') (ht : t < B) : TyAt w' t T := by
  obtain ⟨cur, fr, h⟩ := h
  exact ⟨cur, fr, (hb.block t ht).trans h⟩
theorem TyAt.set {w : World} {t : Nat} {T : TypeId} (h : TyAt w t T) (a : Addr) (v : Value) : TyAt (w.setCell a v) t T := by
  obtain ⟨cur, fr, h⟩ := h
  by_cases e : t = a.block
  · subst e
    unfold World.setCell TyAt
    simp only [Array.getElem?_modify, if_pos, h, Option.map_some]
    exact ⟨_, _, rfl⟩
  · exact ⟨cur, fr, (heap_setG_ne w a v e).trans h⟩
theorem TyAt.sets {t : Nat} {T : TypeId} (b : Nat) : ∀ (vs : List Value) (o : Nat) (w : World), TyAt w t T → TyAt (w.setCells b o vs) t T
  | [], _, _, h => h
  | v :: r, o, w, h => TyAt.sets b r (o + 1) _ (h.set _ v)
theorem TyAt.new (w : World) (cs : Array Value) (T : TypeId) : TyAt (w.alloc (.cells cs T)) w.heap.size T := ⟨cs, _, heap_alloc_new w _⟩
theorem ownsRow_ty {w w' : World} {B : Option Addr} {E T : TypeId} {base n c m t s : Nat} {vs : List Value} (h : w.ownsRow base E s (.slice B n c) m vs) (hty : TyAt w t T) (hT : T ≠ E) (e : ∀ k, k ≠ t → k < w.heap.size → w'.heap[k]? = w.heap[k]?) : w'.ownsRow base E s (.slice B n c) m vs := by
  obtain ⟨cur0, fr, ht⟩ := hty
  refine ⟨h.1, ?_⟩
  rcases h.2 with hv | ⟨g, cap, cur, hv, hbg, hg, rest⟩
  · exact .inl hv
  · refine .inr ⟨g, cap, cur, hv, hbg, (e g (fun h => ?_) (Array.getElem?_eq_some_iff.1 hg).1).trans hg, rest⟩
    subst h
    rw [ht] at hg
    injection hg with q
    injection q with _ q2 _
    exact hT q2
theorem row_ty {w : World} {base s n c : Nat} {E : TypeId} {A : Option Addr} {vs : List Value} (h : w.ownsRow base E s (.slice A n c) n vs) : ∀ g ∈ blkO A, TyAt w g E ∧ base ≤ g ∧ g < w.heap.size := by
  intro g hg
  rcases h.2 with ⟨hv, _⟩ | ⟨g2, cap, cur, hv, hbg, hgg, _⟩
  · injection hv with e1; rw [e1] at hg; simp [blkO] at hg
  · injection hv with e1
    rw [e1] at hg
    simp only [blkO, List.mem_singleton] at hg
    subst hg
    exact ⟨⟨_, _, hgg⟩, hbg, (Array.getElem?_eq_some_iff.1 hgg).1⟩
theorem rowKept {w w' : World} {base base2 s s2 n c n2 c2 : Nat} {E E2 : TypeId} {A A2 A' : Option Addr} {vs us : List Value} (h : w.ownsRow base E s (.slice A n c) n vs) (k : w.ownsRow base2 E2 s2 (.slice A2 n2 c2) n2 us) (hE : E ≠ E2) (hk : Kept w A2 w' A') : w'.ownsRow base E s (.slice A n c) n vs := by
  refine ⟨h.1, ?_⟩
  rcases h.2 with hv | ⟨g, cap, cur, hv, hbg, hgg, rest⟩
  · exact .inl hv
  · refine .inr ⟨g, cap, cur, hv, hbg, (hk.1 g (Array.getElem?_eq_some_iff.1 hgg).1 (fun a ha e => ?_)).trans hgg, rest⟩
    obtain ⟨⟨cur2, fr, ht⟩, _⟩ := row_ty k g (by subst ha; simp [blkO, e])
    rw [hgg] at ht
    injection ht with q
    injection q with _ q2 _
    exact hE q2
end Go.Proofs.Ytbbdglikdogmhaa
