/- Walk: tomeref18.within. -/
import Derived.Test.YtoeaffmlolapnaaClJ
import Derived.Test.YtoeaffmlolapnaaNumE
namespace Go.Proofs.Ytoeaffmlolapnaa
open Go.RowKit
set_option maxRecDepth 100000

theorem results_tmp3 {fn : Func} {t u v : Tmp} (h : fn.results = #[.tmp t, .tmp u, .tmp v]) (tmps : Array Value) (P : Program) (w : World) :
    (results fn tmps).run P w = .ok (.tuple #[tmps.getD t undef, tmps.getD u undef, tmps.getD v undef]) w := by
  simp [results, h]
def WithinBack (w : World) (l : List Int) (at_ lo hi : Int) (e : Ending) (w' : World) : Prop :=
  e = .returned (.tuple #[.int .i64 (wn l at_ lo hi).1, .int .i64 (wn l at_ lo hi).2.1, .int .i64 (wn l at_ lo hi).2.2]) ∧ Below w.heap.size w w'
theorem within_any (w : World) (A : Option Addr) (n c : Nat) (l : List Int) (at_ lo hi : Int) (hn : l.length = n) (hm : n ≤ 9223372036854775807) (hA : Rd w A l) (hB : IsB l) (ha : -9223372036854775808 ≤ at_ ∧ at_ ≤ 9223372036854775807) (R : Ending → World → Prop) (hP : R = WithinBack w l at_ lo hi) :
    Calls Try.prog 79 #[.slice A n c, .int .i64 at_, .int .i64 lo, .int .i64 hi] w R := by
  have HP := Lib.hid hP; clear hP
  have HN := Lib.hid hn; clear hn
  have HB := Lib.hid hB; clear hB
  have HA := Lib.hid hA; clear hA
  obtain ⟨⟨v, p, z⟩, hU⟩ : ∃ U, unvL l at_ = U := ⟨_, rfl⟩
  have HU := Lib.hid hU; clear hU
  go_enter Try.func79, Try.ntmps79
  go_wp2_with fail
  refine (runv_any _ A n c l at_ HN.out hm HA.out HB.out ha).mono ?_
  rintro e w1 ⟨rfl, hb⟩
  simp only [HU.out]
  have HB1 := Lib.hid hb; clear hb
  by_cases hz : z = 0
  · subst hz
    by_cases h1 : v < lo
    · have HW := Lib.hid (wn_form (hi := hi) HU.out (Or.inl h1))
      go_wp2
      rw [HP.out]
      exact ⟨by rw [HW.out] <;> rfl, HB1.out⟩
    · by_cases h2 : hi < v
      · have HW := Lib.hid (wn_form (lo := lo) HU.out (Or.inr h2))
        go_wp2
        rw [HP.out]
        exact ⟨by rw [HW.out] <;> rfl, HB1.out⟩
      · have HW := Lib.hid (wn_ok (lo := lo) (hi := hi) HU.out (by omega))
        go_wp2
        rw [HP.out]
        exact ⟨by rw [HW.out] <;> rfl, HB1.out⟩
  · have hzb : (z != 0) = true := by simp [hz]
    have HW := Lib.hid (wn_err (lo := lo) (hi := hi) HU.out hz)
    clear hz
    go_wp2
    rw [HP.out]
    exact ⟨by rw [HW.out] <;> rfl, HB1.out⟩
end Go.Proofs.Ytoeaffmlolapnaa
