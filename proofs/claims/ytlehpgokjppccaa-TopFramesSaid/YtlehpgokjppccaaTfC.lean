/- Several texts of this proof as one: Join. Laid by merge.py. -/
import Derived.Test.YtlehpgokjppccaaTfA
import Derived.BigQuiet
import Derived.Deep.DeepCutAuto
import Derived.Deep.QuietTactic
import Derived.Handy
import Derived.Laws.Externs
import Derived.Lib.Hide
import Derived.Lib.MakeNoZero
import Derived.Lib.SlBuf
import Derived.Maps.AppendAt
import Derived.Test.YtlehpgokjppccaaProg
import Derived.WalkKit
import Derived.WalkSpells
namespace Go.Proofs.Ytlehpgokjppccaa
section
open Go.RowKit
set_option maxRecDepth 100000
/-- A buffer of the call's own (block h, N cells at least, none frozen), filled from the front. -/
structure Buf (h : Nat) (wr : World) (N : Nat) (acc : List Int) : Prop where
  there : ∀ j, j < N → (wr.cell? ⟨h, j, none⟩).isSome = true
  free : ∀ j, j < N → wr.frozen? ⟨h, j, none⟩ = false
  holds : ∀ j, j < acc.length → wr.cell? ⟨h, j, none⟩ = some (.int .u8 (bt acc j))
  fits : acc.length ≤ N

theorem size_u8 : (Try.prog.info? 5).map (·.size) = some 1 := by
  obtain ⟨i, hi, _, hsz, _⟩ := info_parts info_u8
  rw [hi]; simp [hsz]

theorem below_setCellsJ {B : Nat} {a : World} (b : Nat) (hb : B ≤ b) : ∀ (vs : List Value) (o : Nat) {w : World}, Below B a w → Below B a (w.setCells b o vs)
  | [], _, _, h => h
  | v :: r, o, _, h => below_setCellsJ b hb r (o + 1) (h.setCell (p := ⟨b, o, none⟩) hb v)

theorem bt_append_left {l m : List Int} {j : Nat} (h : j < l.length) : bt (l ++ m) j = bt l j := by simp [bt, List.getElem?_append_left h]
theorem bt_append_right {l m : List Int} {j : Nat} : bt (l ++ m) (l.length + j) = bt m j := by
  unfold bt
  rw [List.getD_eq_getElem?_getD, List.getD_eq_getElem?_getD, List.getElem?_append_right (by omega), Nat.add_sub_cancel_left]

/-- 'copy(b[bp:], v)', bp = how much is filled. -/
theorem copy_part (wr : World) (h N : Nat) (acc l : List Int) (B : Option Addr) (n c : Nat) (ty : TypeId) (hb : Buf h wr N acc) (hl : l.length = n) (hr : Rd wr B l) (hfit : acc.length + n ≤ N) :
    ∃ wr', (Builtin.copy_ #[24, 24] ty #[Lib.tailV h N acc.length, .slice B n c]).run Try.prog wr = .ok (.int .i64 (n : Int)) wr' ∧ Buf h wr' N (acc ++ l) ∧ Below h wr wr' := by
  subst hl
  by_cases h0 : l = []
  · subst h0
    exact ⟨wr, run_copy_none (P := Try.prog) wr _ _ ty 5 _ B _ _ 0 c Try.underlying24 size_u8 (by simp), by simpa using hb, Below.refl _ _⟩
  · have hpos : 0 < l.length := List.length_pos_iff.2 h0
    obtain ⟨g, off, rfl, _, hc⟩ := hr.at hpos
    have hne : ¬ N = acc.length := by omega
    have hrr := run_copy_cells (P := Try.prog) wr 24 24 ty 5 h acc.length (N - acc.length) (N - acc.length) ⟨g, off, none⟩ l.length c (vb l) Try.underlying24 size_u8
      (by rw [vb_length]; exact (Nat.min_eq_left (by omega)).symm)
      (fun j u hu => by obtain ⟨hj, rfl⟩ := vb_get hu; rw [Addr.add_lit]; exact hc j hj)
      (fun j hj => by rw [vb_length] at hj; exact hb.there _ (by omega)) (fun j hj => by rw [vb_length] at hj; exact hb.free _ (by omega)) (vb_one l)
    rw [vb_length] at hrr
    have hin := World.cell?_setCells_in h (vb l) acc.length wr (fun j hj => by rw [vb_length] at hj; exact hb.there _ (by omega))
    have hout := World.cell?_setCells_out h (vb l) acc.length wr
    refine ⟨_, by unfold Lib.tailV; rw [if_neg hne]; exact hrr, ⟨?_, ?_, ?_, by rw [List.length_append]; exact hfit⟩, below_setCellsJ h (Nat.le_refl _) _ _ (Below.refl _ _)⟩
    · intro j hj
      by_cases h1 : acc.length ≤ j ∧ j < acc.length + l.length
      · obtain ⟨d, rfl⟩ : ∃ d, j = acc.length + d := ⟨j - acc.length, by omega⟩
        rw [hin d (by rw [vb_length]; omega)]
        rfl
      · rw [hout ⟨h, j, none⟩ (fun _ _ => by rw [vb_length]; show j < _ ∨ _ ≤ j; omega)]
        exact hb.there j hj
    · intro j hj
      rw [World.frozen?_setCells]
      exact hb.free j hj
    · intro j hj
      by_cases h1 : j < acc.length
      · rw [bt_append_left h1, hout ⟨h, j, none⟩ (fun _ _ => Or.inl h1)]
        exact hb.holds j h1
      · obtain ⟨d, rfl⟩ : ∃ d, j = acc.length + d := ⟨j - acc.length, by omega⟩
        rw [List.length_append] at hj
        have hd : d < l.length := by omega
        rw [bt_append_right, hin d (by rw [vb_length]; exact hd), bt_lt hd]
        simp [vb]

/-- Bytes in new memory (a row with room besides). -/
def FreshBack (w : World) (l : List Int) (e : Ending) (w' : World) : Prop :=
  ∃ g n, e = .returned (.slice (some ⟨g, 0, none⟩) n n) ∧ n = l.length ∧ w.heap.size ≤ g ∧ g < w'.heap.size ∧ n ≤ maxLen ∧ (∀ j, j < n → w'.cell? ⟨g, j, none⟩ = some (.int .u8 (bt l j))) ∧ (∀ j, j < n → w'.frozen? ⟨g, j, none⟩ = false) ∧ Below w.heap.size w w'

theorem flat_take {L : List (List Int)} {k : Nat} (h : k < L.length) : (L.take (k + 1)).flatten = (L.take k).flatten ++ rw_ L k := by
  rw [take_succ_rw h, List.flatten_append]; simp
theorem flat_le (L : List (List Int)) (k : Nat) : (L.take k).flatten.length ≤ L.flatten.length := by
  have := congrArg (fun M => (List.flatten M).length) (List.take_append_drop k L)
  simp only [List.flatten_append, List.length_append] at this
  omega

def J1 (L : List (List Int)) (n : Nat) (s i : Value) : Prop := ∃ k : Nat, k ≤ n ∧ i = .int .i64 k ∧ s = .int .i64 (((L.take k).flatten.length : Nat) : Int)
def J2 (w : World) (h : Nat) (L : List (List Int)) (T : Nat) (s i : Value) (wr : World) : Prop :=
  ∃ (k : Nat) (acc : List Int), k + 1 ≤ L.length ∧ i = .int .i64 k ∧ s = .int .i64 (acc.length : Nat) ∧ acc = (L.take (k + 1)).flatten ∧ Buf h wr T acc ∧ h < wr.heap.size ∧ Below w.heap.size w wr

set_option maxRecDepth 100000 in
set_option maxHeartbeats 8000000 in
theorem bjoin_any (w : World) (A : Option Addr) (n c : Nat) (L : List (List Int)) (hn : L.length = n) (h2 : 2 ≤ n) (hnc : n ≤ c) (hcm : c ≤ maxLen) (hR : RdRows w A L) (hT : L.flatten.length ≤ 281474976710656) :
    Calls Try.prog 64 #[.slice A n c, .slice none 0 0] w (FreshBack w L.flatten) := by
  unfold maxLen at hcm
  obtain ⟨b, off, hA, hbl, hrows⟩ := RdRows.at hR (by omega)
  subst hA
  have HR := Lib.hid hR; clear hR
  have HW := Lib.hid hrows; clear hrows
  have HN := Lib.hid hn; clear hn
  have f0 : ((n : Int) == 0) = false := by simp; omega
  have f1 : ((n : Int) == 1) = false := by simp; omega
  go_enter Try.func64, Try.ntmps64
  go_wp2_with fail
  go_loop [5, 44] (fun s i => J1 L n s i) (fun _ i => n - (intOf i).toNat)
  case atStart => exact ⟨0, Nat.zero_le _, rfl, by simp⟩
  case round =>
    obtain ⟨k, hk, rfl, rfl⟩ := hrel
    have hle := flat_le L k
    by_cases hlt : k < n
    · obtain ⟨A1, c1, h1, h3, h4, _⟩ := HW.out k (by rw [HN.out]; exact hlt)
      have hst := flat_take (L := L) (k := k) (by rw [HN.out]; exact hlt)
      have hle2 := flat_le L (k + 1)
      have hsum := congrArg List.length hst
      rw [List.length_append] at hsum
      obtain ⟨a, ha⟩ : ∃ a, a = (L.take k).flatten.length := ⟨_, rfl⟩
      obtain ⟨m, hm⟩ : ∃ m, m = (rw_ L k).length := ⟨_, rfl⟩
      rw [← ha] at hle hsum ⊢
      rw [← hm] at h1 h3 hsum
      rw [hsum] at hle2
      have HS := Lib.hid hsum; clear hsum hst ha hm
      have hover : ¬ (9223372036854775807 - (a : Int) < (m : Int)) := by omega
      go_wp2_with fail
      go_round
      case rel => exact ⟨k + 1, by omega, by go_num, by rw [HS.out]; go_num⟩
      case measure => simp [intOf]; omega
    · obtain rfl : k = n := by omega
      have hall : L.take k = L := List.take_of_length_le (by rw [HN.out]; exact Nat.le_refl _)
      rw [hall]
      clear hall hle
      obtain ⟨T, hTT⟩ : ∃ T, T = L.flatten.length := ⟨_, rfl⟩
      rw [← hTT] at hT ⊢
      have HT := Lib.hid hTT; clear hTT
      obtain ⟨cs, hrunM, hle, _⟩ := Lib.run_makeNoZero (P := Try.prog) w #[3] 24 5 Try.underlying24 T hT
      have hcall : (callFunc 72 #[.int .i64 (T : Int)]).run Try.prog w = .ok (.value (.slice (some ⟨w.heap.size, 0, none⟩) T cs.size)) ((w.alloc (.cells cs 5)).drewN 2) := by
        rw [run_callFunc_extern Try.func72 (by kernel_rfl) (by kernel_rfl) (by kernel_rfl) (e := Extern.BytealgMakeNoZero.makeNoZero #[3] #[24]) (by kernel_rfl), hrunM]
        rfl
      clear hrunM
      have i0 : (0 : Int) ≤ (T : Int) := by omega
      have i1 : (T : Int) ≤ (cs.size : Int) := by omega
      have hc1 : ¬ c = 1 := by omega
      obtain ⟨A0, c0, hr0, _, _, hrd0⟩ := HW.out 0 (by rw [HN.out]; omega)
      obtain ⟨l0, hl0⟩ : ∃ l0, l0 = rw_ L 0 := ⟨_, rfl⟩
      rw [← hl0] at hr0 hrd0
      have hfl0 : (L.take (0 + 1)).flatten = l0 := by rw [flat_take (by rw [HN.out]; omega), hl0]; simp
      have hfle := flat_le L (0 + 1)
      rw [hfl0, ← HT.out] at hfle
      rw [Nat.add_zero] at hr0
      obtain ⟨W0, hW0⟩ : ∃ W0, W0 = (w.alloc (.cells cs 5)).drewN 2 := ⟨_, rfl⟩
      have hB0 : Below w.heap.size w W0 := by rw [hW0]; exact ⟨rfl, rfl, rfl, by simp, fun k hk => heap_alloc_old w _ hk⟩
      have hz0 : w.heap.size < W0.heap.size := by rw [hW0]; simp
      have B0 : Buf w.heap.size W0 T [] := by
        refine ⟨fun j hj => ?_, fun j _ => ?_, fun j hj => by simp at hj, Nat.zero_le _⟩
        · rw [hW0, World.cell?_drewN, World.cell?_alloc_mark, Array.getElem?_eq_getElem (by omega)]
          rfl
        · rw [hW0, World.frozen?_drewN, World.frozen?_alloc_mark w cs 5 0 0 j]
          simp
      have hrd0' := hrd0.keep hB0
      obtain ⟨w1, hr1, B1, hb1⟩ := copy_part W0 w.heap.size T [] l0 A0 l0.length c0 3 B0 rfl hrd0' (by simpa using hfle)
      rw [List.length_nil, Lib.tailV_zero] at hr1
      rw [List.nil_append] at B1
      have hB1 := hB0.trans hb1
      have hz1 := hb1.size
      rw [hW0] at hr1
      have HB1 := Lib.hid B1; clear B1 B0 hrd0 hrd0' hb1 hW0
      have HFL := Lib.hid hfl0; clear hfl0 hl0
      have hcr := hr1
      clear hr1
      go_wp2_with (refine Lib.wpList_copy_run _ rfl (.tmp 64) (.tmp 67) 24 24 rfl _ _ rfl rfl hcr ?_; clear hcr hcall)
      go_loopw [9, 72] (fun s i wr => J2 w w.heap.size L T s i wr) (fun _ i _ => k - 1 - (intOf i).toNat)
      case atStart => exact ⟨0, l0, by rw [HN.out]; omega, rfl, rfl, HFL.out.symm, HB1.out, by omega, hB1⟩
      case round =>
        clear hB1 hz1 hfle hr0
        obtain ⟨q, acc, hq, rfl, rfl, hacc, hbuf, hgh, hb2⟩ := hrel
        rw [HN.out] at hq
        obtain ⟨a, ha⟩ : ∃ a, a = acc.length := ⟨_, rfl⟩
        rw [← ha]
        have haT : a ≤ T := by rw [ha]; exact hbuf.fits
        by_cases hlt : q + 1 < k
        · obtain ⟨A1, c1, h1, h3, h4, hrd⟩ := HW.out (q + 1) (by rw [HN.out]; omega)
          have h1' := (hb2.cell (p := ⟨b, off + (q + 1), none⟩) (show b < _ from hbl)).trans h1
          obtain ⟨l, hl⟩ : ∃ l, l = rw_ L (q + 1) := ⟨_, rfl⟩
          rw [← hl] at h1' hrd
          obtain ⟨m, hm⟩ : ∃ m, m = l.length := ⟨_, rfl⟩
          rw [← hm, show off + (q + 1) = off + 1 + q by omega] at h1'
          have hst := flat_take (L := L) (k := q + 1) (by rw [HN.out]; omega)
          rw [← hacc, ← hl] at hst
          have hle2 := flat_le L (q + 1 + 1)
          rw [hst, List.length_append, ← ha, ← hm, ← HT.out] at hle2
          have hsl : ∀ W, (Instr.slice 24 (.slice (some ⟨w.heap.size, 0, none⟩) T T) (some (.int .i64 (a : Int))) none none).run Try.prog W = .ok (Lib.tailV w.heap.size T a) W := fun W => Lib.run_slice_tailV W 24 5 Try.underlying24 (fun w => by obtain ⟨i, hi, _, hsz, _⟩ := info_parts info_u8; simp [sizeOf, typeInfo, hi, hsz]) _ T a haT
          obtain ⟨w2, hr2, B2, hbb2⟩ := copy_part wr w.heap.size T acc [] none 0 0 3 hbuf rfl (.inl rfl) (by rw [← ha]; omega)
          rw [List.append_nil] at B2
          obtain ⟨w3, hr3, B3, hbb3⟩ := copy_part w2 w.heap.size T acc l A1 m c1 3 B2 hm.symm (hrd.keep (hb2.trans hbb2)) (by rw [← ha]; omega)
          rw [← ha] at hr2 hr3
          have hB3 := (hb2.trans hbb2).trans hbb3
          have hg3 : w.heap.size < w3.heap.size := by have := hbb2.size; have := hbb3.size; omega
          have HST := Lib.hid hst; clear hst
          have HA := Lib.hid ha; clear ha
          have HM := Lib.hid hm; clear hm hacc hl
          have HB3 := Lib.hid B3; clear B3 B2 hbuf
          have HR2 := Lib.hid hr2; clear hr2
          have HR3 := Lib.hid hr3; clear hr3
          clear hbb2 hbb3 hrd h1
          go_wp2_with (first
            | (refine Lib.wpList_copy_run _ rfl (.tmp 79) (.tmp 80) 24 24 rfl _ _ rfl rfl HR2.out ?_)
            | (refine Lib.wpList_copy_run _ rfl (.tmp 86) (.tmp 87) 24 24 rfl _ _ rfl rfl HR3.out ?_))
          go_roundw
          case rel => exact ⟨q + 1, acc ++ l, by rw [HN.out]; omega, by go_num, by rw [List.length_append, ← HA.out, ← HM.out]; go_num, HST.out.symm, HB3.out, hg3, hB3⟩
          case measure => simp [intOf]; omega
        · obtain rfl : k = q + 1 := by omega
          have hacc2 : acc = L.flatten := by rw [hacc, List.take_of_length_le (by rw [HN.out]; exact Nat.le_refl _)]
          have hTa : T = a := by rw [HT.out, ha, hacc2]
          subst hTa
          have HA := Lib.hid ha; clear ha hacc
          have HA2 := Lib.hid hacc2; clear hacc2
          have HBF := Lib.hid hbuf; clear hbuf
          go_wp2_with fail
          go_ret
          refine ⟨w.heap.size, T, rfl, HT.out, Nat.le_refl _, hgh, by unfold maxLen; omega, fun j hj => ?_, HBF.out.free, hb2⟩
          rw [HBF.out.holds j (by rw [← HA.out]; exact hj), HA2.out]

theorem join_any (w : World) (A : Option Addr) (n c : Nat) (L : List (List Int)) (hn : L.length = n) (h2 : 2 ≤ n) (hnc : n ≤ c) (hcm : c ≤ maxLen) (hR : RdRows w A L) (hT : L.flatten.length ≤ 281474976710656) :
    Calls Try.prog 49 #[.slice A n c] w (FreshBack w L.flatten) := by
  have HC := Lib.hid (bjoin_any w A n c L hn h2 hnc hcm hR hT)
  clear hn h2 hnc hcm hR hT
  go_enter Try.func49, Try.ntmps49
  go_wp2_with fail
  refine HC.out.mono ?_
  rintro e w' ⟨g, n', rfl, hx⟩
  have HX := Lib.hid hx; clear hx
  go_wp2
  go_ret
  exact ⟨g, n', rfl, HX.out⟩
end
end Go.Proofs.Ytlehpgokjppccaa
