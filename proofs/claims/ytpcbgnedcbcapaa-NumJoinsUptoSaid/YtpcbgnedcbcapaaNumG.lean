/- Walk: tomeref01.Join. -/
import Derived.Test.YtpcbgnedcbcapaaJoin
namespace Go.Proofs.Ytpcbgnedcbcapaa
open Go.RowKit

def RJ1 (w : World) (L : List (List Int)) (out i : Value) (wr : World) : Prop :=
  ∃ (q : Nat) (A : Option Addr) (m c : Nat), q ≤ L.length ∧ i = .int .i64 q ∧ out = .slice A m c ∧ OwnB wr w.heap.size A m c (L.take q).flatten ∧ Below w.heap.size w wr
def RJ2 (w : World) (pre l : List Int) (out k : Value) (wr : World) : Prop :=
  ∃ (j : Nat) (A : Option Addr) (m c : Nat), j ≤ l.length ∧ k = .int .i64 j ∧ out = .slice A m c ∧ OwnB wr w.heap.size A m c (pre ++ l.take j) ∧ Below w.heap.size w wr

set_option maxRecDepth 100000 in
set_option maxHeartbeats 4000000 in
theorem rjoin_any (w : World) (A : Option Addr) (n c : Nat) (L : List (List Int)) (hn : L.length = n) (hnc : n ≤ c) (hcm : c ≤ maxLen) (hR : RdRows w A L) (hT : L.flatten.length ≤ 140737488351232) :
    Calls Try.prog 36 #[.slice A n c] w (BytesBack w L.flatten) := by
  unfold maxLen at hcm
  have HR := Lib.hid hR; clear hR
  have HN := Lib.hid hn; clear hn
  have HT := Lib.hid hT; clear hT
  go_enter Try.func36, Try.ntmps36
  go_wp2_with fail
  go_loopw [3, 4] (fun out i wr => RJ1 w L out i wr) (fun _ i _ => n - (intOf i).toNat)
  case atStart => exact ⟨0, none, 0, 0, Nat.zero_le _, rfl, rfl, OwnB.nil _ _, Below.refl _ _⟩
  case round =>
    obtain ⟨q, A1, m, c1, hq, rfl, rfl, hown, hb⟩ := hrel
    rw [HN.out] at hq
    by_cases hlt : q < n
    · obtain ⟨b, off, hA, hbl, hrows⟩ := RdRows.at HR.out (by rw [HN.out]; omega)
      subst hA
      obtain ⟨A2, c2, h1, h3, h4, hrd⟩ := hrows q (by rw [HN.out]; omega)
      obtain ⟨l, hl⟩ : ∃ l, l = rw_ L q := ⟨_, rfl⟩
      rw [← hl] at h1 hrd h3
      obtain ⟨p, hp⟩ : ∃ p, p = l.length := ⟨_, rfl⟩
      rw [← hp] at h1 h3
      unfold maxLen at h4
      have hst := flat_take (L := L) (k := q) (by rw [HN.out]; omega)
      have hle := flat_le L (q + 1)
      obtain ⟨pre, hpre⟩ : ∃ pre, pre = (L.take q).flatten := ⟨_, rfl⟩
      rw [← hpre, ← hl] at hst
      rw [hst, List.length_append, ← hp] at hle
      rw [← hpre] at hown
      have hle2 : pre.length + p ≤ 140737488351232 := Nat.le_trans hle HT.out
      have HLE := Lib.hid hle2; clear hle hle2
      have HST := Lib.hid hst; clear hst hl hpre hrows
      have HP := Lib.hid hp; clear hp
      have HRD := Lib.hid hrd; clear hrd
      have HO := Lib.hid hown; clear hown
      go_wp2_with fail
      go_loopw [3, 5] (fun out k wr => RJ2 w pre l out k wr) (fun _ k _ => p - (intOf k).toNat)
      case atStart => exact ⟨0, A1, m, c1, Nat.zero_le _, rfl, rfl, by simpa using HO.out, hb⟩
      case round =>
        rename_i wq
        clear HO
        obtain ⟨j, A3, m3, c3, hj, rfl, rfl, hown, hb3⟩ := hrel
        rw [← HP.out] at hj
        have hm3 := hown.len
        rw [List.length_append, List.length_take, ← HP.out, Nat.min_eq_left hj] at hm3
        have hm3b : m3 ≤ 140737488351232 := by have := HLE.out; omega
        have h1' := (hb3.cell (p := ⟨b, off + q, none⟩) (show b < _ from hbl)).trans h1
        have hbs := hb3.size
        by_cases hlj : j < p
        · have hjl : j < l.length := by rw [← HP.out]; exact hlj
          obtain ⟨b2, o2, hA2, hbl2, hcell⟩ := Rd.at (HRD.out.keep hb3) (by rw [← HP.out]; omega)
          subst hA2
          have hc := hcell j hjl
          have htk := take_succ_bt hjl
          obtain ⟨x, hx⟩ : ∃ x, x = bt l j := ⟨_, rfl⟩
          rw [← hx] at hc htk
          have HTK := Lib.hid htk; clear htk hx hcell hjl
          have HO := Lib.hid hown; clear hown
          have hm3c : m3 + 1 ≤ 140737488355328 := by omega
          have HM := Lib.hid hm3; clear hm3
          go_wp2_with (at_builtin; refine wp_append rfl (.tmp 21) (.tmp 29) rfl w.heap.size A3 m3 c3 _ rfl (HO.out.alloc _) (some ⟨wr.heap.size, 0, none⟩) 1 1 [x] rfl rfl (OwnB.rd (OwnB.lit wr #[.int .u8 x] [x] _ 1 rfl rfl (Nat.le_refl _) (by decide))) (by omega) (by simp; omega) ?_; intro A4 c4 w4 hown4 _ hb4)
          go_roundw
          case rel => exact ⟨j + 1, A4, m3 + 1, c4, by rw [← HP.out]; omega, by go_num, rfl, by rw [HTK.out, ← List.append_assoc]; exact hown4, (hb3.alloc hbs _).trans hb4⟩
          case measure => simp [intOf]; omega
        · obtain rfl : j = p := by omega
          rw [List.take_of_length_le (by rw [← HP.out]; exact Nat.le_refl _), ← HST.out] at hown
          have HO := Lib.hid hown; clear hown hm3
          go_wp2_with fail
          go_roundw
          case rel => exact ⟨q + 1, A3, m3, c3, by rw [HN.out]; omega, by go_num, rfl, HO.out, hb3⟩
          case measure => simp [intOf]; omega
    · obtain rfl : q = n := by omega
      rw [List.take_of_length_le (by rw [HN.out]; exact Nat.le_refl _)] at hown
      have HO := Lib.hid hown; clear hown
      go_wp2_with fail
      go_ret
      exact ⟨A1, m, c1, rfl, HO.out, hb⟩
end Go.Proofs.Ytpcbgnedcbcapaa
