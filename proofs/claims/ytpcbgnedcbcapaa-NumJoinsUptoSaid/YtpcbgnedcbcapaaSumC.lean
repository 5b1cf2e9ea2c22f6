/- Walks: tomelaw02.all. -/
import Derived.Test.YtpcbgnedcbcapaaSumB
namespace Go.Proofs.Ytpcbgnedcbcapaa
open Go.RowKit

def AllBack (w : World) (L : List (List Int)) (e : Ending) (w' : World) : Prop :=
  Below w.heap.size w w' ∧ ((okL L = false ∧ e = .returned (.tuple #[.slice none 0 0, .bool false])) ∨
    (okL L = true ∧ ∃ A n c, e = .returned (.tuple #[.slice A n c, .bool true]) ∧ OwnB w' w.heap.size A n c L.flatten))
def AllRel (w : World) (L : List (List Int)) (out i : Value) (wr : World) : Prop :=
  ∃ k A m c, k ≤ L.length ∧ i = .int .i64 (k : Nat) ∧ (∀ j, j < k → (rw_ L j).length ≤ 4000) ∧ out = .slice A m c ∧ OwnB wr w.heap.size A m c (L.take k).flatten ∧ m ≤ 4000 * k ∧ Below w.heap.size w wr

set_option maxHeartbeats 1000000 in
theorem all_any (w : World) (A : Option Addr) (n c : Nat) (L : List (List Int)) (hn : L.length = n) (hm : n ≤ 9223372036854775807) (hL : RdRows w A L) :
    Calls Try.prog 14 #[.slice A n c] w (AllBack w L) := by
  have HN := Lib.hid hn; clear hn
  have HL := Lib.hid hL; clear hL
  by_cases h40 : 40 < n
  · go_enter Try.func14, Try.ntmps14
    go_wp2_with fail
    go_ret2
    exact ⟨Below.refl _ _, .inl ⟨by simp [okL, HN.out]; intro h; omega, rfl⟩⟩
  · go_enter Try.func14, Try.ntmps14
    go_wp2_with fail
    go_loopw [4, 5] (fun out i wr => AllRel w L out i wr) (fun _ i _ => n - (intOf i).toNat)
    case atStart => exact ⟨0, none, 0, 0, Nat.zero_le _, rfl, fun j hj => absurd hj (by omega), rfl, OwnB.nil _ _, by omega, Below.refl _ _⟩
    case round =>
      obtain ⟨k, A1, m, c1, hk, rfl, hrows, rfl, hown, hmk, hb⟩ := hrel
      have HR := Lib.hid hrows; clear hrows
      rw [HN.out] at hk
      by_cases hlt : k < n
      · obtain ⟨b, off, hA, hbb, hcell⟩ := RdRows.at (HL.out.keep hb) (by rw [HN.out]; omega)
        obtain ⟨A', c', h1, h2, h3, h4⟩ := hcell k (by rw [HN.out]; omega)
        subst hA
        clear hcell
        obtain ⟨l, hl⟩ : ∃ x, x = rw_ L k := ⟨_, rfl⟩
        rw [← hl] at h1 h2 h4
        obtain ⟨p, hp⟩ : ∃ x, x = l.length := ⟨_, rfl⟩
        rw [← hp] at h1 h2
        have HLL := Lib.hid hl; clear hl
        have HP := Lib.hid hp; clear hp
        have H4 := Lib.hid h4; clear h4
        have HO := Lib.hid hown; clear hown
        have hbs := hb.size
        unfold maxLen at h3
        by_cases hp4 : 4000 < p
        · go_wp2_with fail
          go_ret2
          exact ⟨hb, .inl ⟨okL_no k (by rw [HN.out]; omega) (by rw [← HLL.out, ← HP.out]; exact hp4), rfl⟩⟩
        · go_wp2_with (at_builtin; refine wp_append rfl (.tmp 21) (.tmp 25) rfl w.heap.size A1 m c1 _ rfl HO.out A' p c' l rfl HP.out.symm H4.out (by omega) hbs ?_; intro A2 c2 w2 hown2 _ hb2)
          go_roundw
          case rel =>
            refine ⟨k + 1, A2, m + p, c2, by rw [HN.out]; omega, by go_num, ?_, rfl, ?_, by omega, hb.trans hb2⟩
            · intro j hj
              by_cases hjk : j < k
              · exact HR.out j hjk
              · obtain rfl : j = k := by omega
                rw [← HLL.out, ← HP.out]; omega
            · rw [take_succ_rw (by rw [HN.out]; omega), List.flatten_append, ← HLL.out]
              simpa using hown2
          case measure => simp [intOf]; omega
      · obtain rfl : k = n := by omega
        go_wp2_with fail
        go_ret2
        rw [List.take_of_length_le (by rw [HN.out]; exact Nat.le_refl _)] at hown
        exact ⟨hb, .inr ⟨okL_yes (by rw [HN.out]; omega) (by rw [HN.out]; exact HR.out), A1, m, c1, rfl, hown⟩⟩

end Go.Proofs.Ytpcbgnedcbcapaa
