/- Walk: header.Decode. -/
import Derived.Test.YtlehpgokjppccaaHdF
import Derived.Laws.ResultCell
namespace Go.Proofs.Ytlehpgokjppccaa
open Go.RowKit
set_option maxRecDepth 100000

def DecBack (w : World) (l : List Int) (e : Ending) (w' : World) : Prop := e = .returned (.tuple #[(decL l).1.val, .int .i64 (decL l).2]) ∧ Below w.heap.size w w'

/-- A head lies in a block. -/
def HdAt (w : World) (g : Nat) (h : Hd) : Prop := ∀ i, i < 6 → w.cell? ⟨g, i, none⟩ = some (.int .i64 (h.list.getD i 0))
theorem HdAt.of {w : World} {g : Nat} {h : Hd} (k0 : w.cell? ⟨g, 0, none⟩ = some (.int .i64 h.s)) (k1 : w.cell? ⟨g, 1, none⟩ = some (.int .i64 h.p)) (k2 : w.cell? ⟨g, 2, none⟩ = some (.int .i64 h.f)) (k3 : w.cell? ⟨g, 3, none⟩ = some (.int .i64 h.m)) (k4 : w.cell? ⟨g, 4, none⟩ = some (.int .i64 h.c)) (k5 : w.cell? ⟨g, 5, none⟩ = some (.int .i64 h.v)) : HdAt w g h := by
  intro i hi
  rcases (by omega : i = 0 ∨ i = 1 ∨ i = 2 ∨ i = 3 ∨ i = 4 ∨ i = 5) with rfl | rfl | rfl | rfl | rfl | rfl
  · exact k0
  · exact k1
  · exact k2
  · exact k3
  · exact k4
  · exact k5
theorem run_loadHd (w : World) (g : Nat) (h : Hd) (hc : HdAt w g h) : (loadVar 23 ⟨g, 0, none⟩).run Try.prog w = .ok h.val w := by
  have k0 := hc 0 (by omega)
  have k1 := hc 1 (by omega)
  have k2 := hc 2 (by omega)
  have k3 := hc 3 (by omega)
  have k4 := hc 4 (by omega)
  have k5 := hc 5 (by omega)
  simp only [Hd.list, List.getD_cons_zero, List.getD_cons_succ] at k0 k1 k2 k3 k4 k5
  simp [go_sem, loadVar, k0, k1, k2, k3, k4, k5, Hd.val]
theorem ret_hd {fn : Func} {R : Ending → World → Prop} {a : Act} {w : World} {p u : Tmp} {g : Nat} {h : Hd} (hres : fn.results = #[.cell p 23, .tmp u]) (hp : a.tmps.getD p undef = .pointer (some ⟨g, 0, none⟩)) (hc : HdAt w g h) (hd : a.defers = [])
    (hR : R (.returned (.tuple #[h.val, a.tmps.getD u undef])) w) : bodyPost Try.prog fn R .ret a w := by
  refine bodyPost_ret (v := .tuple #[h.val, a.tmps.getD u undef]) ?_ hd hR
  rw [results_cell_tmp hres, hp]
  show ((loadVar 23 ⟨g, 0, none⟩).run Try.prog w).andThen _ = _
  rw [run_loadHd w g h hc]
  rfl

theorem decode_short (w : World) (A : Option Addr) (n c : Nat) (l : List Int) (hn : l.length = n) (hs : n < 64) (R : Ending → World → Prop) (hR : R = DecBack w l) :
    Calls Try.prog 17 #[.slice A n c] w R := by
  have HR := Lib.hid hR; clear hR
  have HN := Lib.hid hn; clear hn
  go_enter Try.func17, Try.ntmps17
  go_wp2
  refine ret_hd (h := zeroH) rfl rfl (HdAt.of (by simp [go_sem, zeroH]) (by simp [go_sem, zeroH]) (by simp [go_sem, zeroH]) (by simp [go_sem, zeroH]) (by simp [go_sem, zeroH]) (by simp [go_sem, zeroH])) rfl ?_
  have hd : decL l = (zeroH, 6) := by rw [decL, if_pos (by rw [HN.out]; exact hs)]
  rw [HR.out]
  exact ⟨by rw [hd]; rfl, ((Below.refl _ _).alloc (Nat.le_refl _) _).alloc (by simp) _⟩

theorem sign_const : (strOfNums signL).toList = ([116, 111, 109, 101, 32, 102, 105, 108, 101, 32, 49, 0, 0, 0, 0, 0] : List UInt8) := by decide +kernel
theorem isB_take {l : List Int} (h : IsB l) (n : Nat) : IsB (l.take n) := fun x hx => h x (List.mem_of_mem_take hx)
theorem rd_take {w : World} {A : Option Addr} {l : List Int} (h : Rd w A l) (n : Nat) : Rd w A (l.take n) := by
  rcases h with h | ⟨b, off, rfl, hc⟩
  · exact .inl (by simp [h])
  · refine .inr ⟨b, off, rfl, fun i hi => ?_⟩
    simp at hi
    rw [hc i (by omega)]
    simp [bt, show i < n by omega]

theorem decode_sign (w : World) (A : Option Addr) (n c : Nat) (l : List Int) (hn : l.length = n) (hnc : n ≤ c) (_hcm : c ≤ maxLen) (hA : Rd w A l) (hB : IsB l) (h64 : 64 ≤ n) (hs : l.take 16 ≠ signL) (R : Ending → World → Prop) (hR : R = DecBack w l) :
    Calls Try.prog 17 #[.slice A n c] w R := by
  have HR := Lib.hid hR; clear hR
  have HN := Lib.hid hn; clear hn
  have hs1 := run_str ((w.alloc (.cells #[.slice A n c] 24)).alloc (.cells #[.int .i64 0, .int .i64 0, .int .i64 0, .int .i64 0, .int .i64 0, .int .i64 0] 23)) A 16 c (l.take 16) (by rw [List.length_take, HN.out]; omega) ((rd_take hA 16).keep (((Below.refl _ _).alloc (Nat.le_refl _) _).alloc (by simp) _))
  have hcmp : ((strOfNums (l.take 16)).toList == ([116, 111, 109, 101, 32, 102, 105, 108, 101, 32, 49, 0, 0, 0, 0, 0] : List UInt8)) = false := by
    rw [← sign_const, str_beq (isB_take hB 16) signL_isB, beqL_no]
    exact hs
  obtain ⟨b, off, rfl, _, _⟩ := hA.at (by rw [HN.out]; omega)
  have hc16 : 16 ≤ c := by omega
  go_enter Try.func17, Try.ntmps17
  go_wp2_with fail
  refine ret_hd (h := zeroH) rfl rfl (HdAt.of (by simp [go_sem, zeroH]) (by simp [go_sem, zeroH]) (by simp [go_sem, zeroH]) (by simp [go_sem, zeroH]) (by simp [go_sem, zeroH]) (by simp [go_sem, zeroH])) rfl ?_
  have hd : decL l = (zeroH, 8) := by rw [decL, if_neg (by rw [HN.out]; omega), if_pos hs]
  rw [HR.out]
  exact ⟨by rw [hd]; rfl, ((Below.refl _ _).alloc (Nat.le_refl _) _).alloc (by simp) _⟩
end Go.Proofs.Ytlehpgokjppccaa
