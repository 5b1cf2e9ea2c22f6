/- Several texts of this proof as one: WfN. Laid by merge.py. -/
import Derived.Test.YtlehpgokjppccaaTfA
import Derived.Test.YtlehpgokjppccaaTfB
import Derived.Test.YtlehpgokjppccaaTfC
import Derived.Test.YtlehpgokjppccaaTfD
import Derived.Test.YtlehpgokjppccaaTfE
import Derived.Test.YtlehpgokjppccaaTfF
import Derived.Test.YtlehpgokjppccaaTfG
import Derived.Test.YtlehpgokjppccaaTfH
import Derived.Test.YtlehpgokjppccaaTfI
import Derived.Test.YtlehpgokjppccaaTfJ
import Derived.Test.YtlehpgokjppccaaTfK
import Derived.Test.YtlehpgokjppccaaTfL
import Derived.ArgAppend
import Derived.BigQuiet
import Derived.ChangeKeysEq
import Derived.ChangeOld
import Derived.Deep.DeepCutAuto
import Derived.Deep.Matrix
import Derived.Deep.MidRow
import Derived.Deep.QuietTactic
import Derived.Deep.RegionHeld3
import Derived.Deep.RegionLaw
import Derived.Deep.Slices
import Derived.Handy
import Derived.Laws.Externs
import Derived.Laws.ResultCell
import Derived.Lib.AppendStr
import Derived.Lib.Hide
import Derived.Lib.MakeNoZero
import Derived.Lib.SlBuf
import Derived.Lib.SliceRun
import Derived.Lib.SmallJoins
import Derived.Maps.AppendAt
import Derived.Maps.RangeWalk
import Derived.OpenShut
import Derived.ProofKit
import Derived.Shelf.SlIterI.Nil
import Derived.Shelf.SortM.Plain
import Derived.Shelf.SortM.SortNone
import Derived.ShutString
import Derived.SizedLaws
import Derived.Test.YtlehpgokjppccaaProg
import Derived.WalkKit
import Derived.WalkMore
import Derived.WalkSpells
namespace Go.Proofs.Ytlehpgokjppccaa
section
open Go.RowKit
set_option maxRecDepth 100000
set_option linter.unusedVariables false
set_option linter.unusedSimpArgs false
set_option linter.unnecessarySimpa false
theorem size_of {u : Int} (hu : 0 ≤ u ∧ u ≤ 255) : ∃ r s : Nat, u.tmod 3 = (r : Int) ∧ r ≤ 2 ∧ wrap64 (256 * 2 ^ r) = (s : Int) ∧ isSize (s : Int) ∧ 256 ≤ s ∧ s ≤ 1024 := by
  have h1 := Int.tmod_nonneg 3 hu.1
  have h2 := Int.tmod_lt_of_pos u (show (0 : Int) < 3 by omega)
  rcases (by omega : u.tmod 3 = 0 ∨ u.tmod 3 = 1 ∨ u.tmod 3 = 2) with h | h | h
  · exact ⟨0, 256, h, by decide, IntWalk.wrap64_in _ (by decide), .inl rfl, by decide, by decide⟩
  · exact ⟨1, 512, h, by decide, IntWalk.wrap64_in _ (by decide), .inr (.inl rfl), by decide, by decide⟩
  · exact ⟨2, 1024, h, by decide, IntWalk.wrap64_in _ (by decide), .inr (.inr (.inl rfl)), by decide, by decide⟩

theorem run_cutB_to (A : Option Addr) (n c hi : Nat) (h : hi ≤ c) (w : World) :
    (Instr.slice 24 (.slice A n c) none (some (.int .i64 (hi : Int))) none).run Try.prog w = .ok (.slice A hi c) w := by
  rw [run_slice_h w 24 A n c Try.underlying24 .i64 (hi : Int) (by omega) (by omega)]
  have e : (sizeOf (Try.prog.elem 24)).run Try.prog w = .ok 1 w := by kernel_rfl
  rw [e]
  simp only [Result.andThen, sliced, Int.toNat_natCast, Nat.sub_zero, Nat.mul_one]
  congr 1
  split
  · rfl
  · cases A with
    | none => rfl
    | some a => simp [Addr.add]
theorem cut_le {kk q m pt : Nat} (h : kk ≤ q) (hp : pt < m) (hz : kk = q → pt = 0) : kk * m + pt ≤ q * m := by
  by_cases e : kk = q
  · rw [e, hz e, Nat.add_zero]; exact Nat.le_refl _
  · have h1 : (kk + 1) * m ≤ q * m := Nat.mul_le_mul_right _ (by omega)
    rw [Nat.add_mul, Nat.one_mul] at h1
    omega
theorem tmod_nat {a : Int} (ha : 0 ≤ a) (m : Nat) (hm : 0 < m) : ∃ r : Nat, a.tmod (m : Int) = (r : Int) ∧ r < m := by
  have h1 := Int.tmod_nonneg (m : Int) ha
  have h2 := Int.tmod_lt_of_pos a (show (0 : Int) < (m : Int) by omega)
  exact ⟨(a.tmod m).toNat, by omega, by omega⟩

/-- The law's first loop: i pages were put into the journal and the log. -/
def TFRel (w : World) (s : Nat) (k : Int) (l : List Int) (q : Nat) (v11 v13 v17 v90 : Value) (wr : World) : Prop :=
  ∃ (i na nb : Nat) (Aa Ab : Option Addr) (ca cb : Nat), i ≤ q ∧ v90 = .int .i64 (i : Int) ∧ v11 = .slice Aa na ca ∧ v13 = .slice Ab nb cb ∧ v17 = .int .u64 (wLast (nextI k (whL s k)) (wFs s l i)) ∧ na ≤ 28 + i * 1032 ∧ nb ≤ 20 + i * 1040 ∧
    AppB wr w.heap.size Aa na ca (jourL s 1 k (jFs s l i)) ∧ AppB wr w.heap.size Ab nb cb (wlog s k (wFs s l i)) ∧ (∀ a b, Aa = some a → Ab = some b → a.block ≠ b.block) ∧ Below w.heap.size w wr

set_option maxHeartbeats 64000000 in
theorem topFrames_walk (w : World) (u : Int) (A : Option Addr) (n c : Nat) (l : List Int) (k cut : Int) (hu : 0 ≤ u ∧ u ≤ 255) (hn : l.length = n) (hnc : n ≤ c) (hcm : c ≤ maxLen) (hA : Rd w A l) (hB : IsB l) (hk : 0 ≤ k ∧ k ≤ 18446744073709551615) (hcut : 0 ≤ cut ∧ cut ≤ 65535) :
    Calls Try.prog 11 #[.int .u8 u, .slice A n c, .int .u64 k, .int .u16 cut] w fun e w' => e = .returned (.bool true) ∧ Below w.heap.size w w' := by
  obtain ⟨r, s, hr, hr2, hse, hsz, hsb⟩ := size_of hu
  have HSE := Lib.hid hse
  clear hse
  have HSO := Lib.hid (show okStart (s : Int) 1 from ⟨hsz, by decide, by decide, by omega⟩)
  have HS := Lib.hid hsz
  obtain ⟨q, hq, hqn, hq12⟩ : ∃ q : Nat, (min (n : Int) 12).toNat = q ∧ q ≤ n ∧ q ≤ 12 := ⟨_, rfl, by omega, by omega⟩
  have HN := Lib.hid hn
  have HNC := Lib.hid hnc
  have HCM := Lib.hid hcm
  have HA := Lib.hid hA
  have HB := Lib.hid hB
  have HK := Lib.hid hk
  have HCUT := Lib.hid hcut
  have hcc : c ≤ 9223372036854775807 := by unfold maxLen at hcm; omega
  clear hu hn hcm hA hB hk hcut
  go_enter Try.func11, Try.ntmps11
  go_upto_region 3 with fail
  rw [HSE.out]
  clear HSE hq hr hr2 hsz
  go_wp2_with fail
  refine (jStart_full _ (s : Int) 1 k (by unfold i64ok; omega) (by unfold i64ok; omega) HK.out HSO.out _ rfl).mono ?_
  rintro e w1 ⟨Aa, rfl, hrda, hb1⟩
  have HJ1 := Lib.hid hrda
  have HB1 := Lib.hid hb1
  clear hrda hb1
  go_wp2_with fail
  refine (wStart_ok _ (s : Int) k HS.out HK.out _ rfl).mono ?_
  rintro e w2 ⟨Ab, cb, rfl, hownb, hb2⟩
  have HW2 := Lib.hid (AppB.of (hownb.mono HB1.out.size) (by decide))
  have HJ2 := Lib.hid (show AppB w2 w.heap.size Aa 28 28 (startH s 1 k) from ⟨startH_length _ _ _, by decide, Nat.le_refl _, by decide, HJ1.out.keep hb2, .inr rfl⟩)
  have HAP := Lib.hid (show ∀ a b, Aa = some a → Ab = some b → a.block ≠ b.block from fun a b ha hb => by
    have h1 := hownb.blkA b hb
    obtain ⟨x, off, hx, hl, _⟩ := HJ1.out.at (by rw [startH_length]; decide)
    rw [ha] at hx
    injection hx with hx
    subst hx
    simp only at hl ⊢
    omega)
  have HB2 := Lib.hid (HB1.out.trans (hb2.mono HB1.out.size))
  clear hownb hb2 HJ1 HB1
  go_wp2_with fail
  refine (wscan_ok _ Ab 20 cb s k [] (whL s k) [] (wlog_none HS.out HK.out) (whL_length _ _) HW2.out.cap HW2.out.most HW2.out.rd (whL_isB _ _) (by decide) _ rfl).mono ?_
  rintro e w3 ⟨Bx, dx, rfl, _, _, _, hb3⟩
  have HW3 := Lib.hid (HW2.out.keep hb3)
  have HJ3 := Lib.hid (HJ2.out.keep hb3)
  have HB3 := Lib.hid (HB2.out.trans (hb3.mono HB2.out.size))
  clear hb3 HW2 HJ2 HB2
  go_wp2_with fail
  have HREL := Lib.hid (show TFRel w s k l q (.slice Aa 28 28) (.slice Ab 20 cb) (.int .u64 (wLast (nextI k (whL s k)) [])) (.int .i64 0) w3 from
    ⟨0, 28, 20, Aa, Ab, 28, cb, Nat.zero_le _, rfl, rfl, rfl, rfl, by omega, by omega, by simpa [jFs, jourL, entsL] using HJ3.out, by simpa [wFs, wlog, wEnts] using HW3.out, HAP.out, HB3.out⟩)
  clear HJ3 HW3 HAP HB3
  generalize (Value.int IntKind.u64 (wLast (nextI k (whL s k)) [])) = v17 at HREL ⊢
  go_loopw [11, 13, 17, 90] (fun v11 v13 v17 v90 wr => TFRel w s k l q v11 v13 v17 v90 wr) (fun _ _ _ v90 _ => q - (intOf v90).toNat)
  case atStart => exact HREL.out
  case round =>
    clear HREL
    rename World => wr
    obtain ⟨i, na, nb, Ba, Bb, da, db, hi, rfl, rfl, rfl, rfl, hna, hnb, hj, hw, hap, hb⟩ := hrel
    have HJ := Lib.hid hj
    have HW := Lib.hid hw
    have HAP := Lib.hid hap
    have HBW := Lib.hid hb
    clear hj hw hap hb
    by_cases hlt : i < q
    · obtain ⟨b1, o1, hAe, hbl, hcell⟩ := (HA.out.keep HBW.out).at (by rw [HN.out]; omega)
      subst hAe
      have hci := hcell i (by rw [HN.out]; omega)
      obtain ⟨z, hz⟩ : ∃ z, bt l i = z := ⟨_, rfl⟩
      have HZ := Lib.hid hz
      have hzb : 0 ≤ z ∧ z ≤ 255 := by rw [← hz]; exact HB.out.bt i
      have HZB := Lib.hid hzb
      rw [hz] at hci
      have hlt' : (i : Int) < (q : Int) := by omega
      have i00 : (0 : Int) ≤ (i : Int) := by omega
      have hwi : IntKind.i64.wrap ((i : Int) + 1) = (i : Int) + 1 := IntWalk.i64_in _ (by omega)
      have hws8 : IntKind.i64.wrap ((s : Int) + 8) = (s : Int) + 8 := IntWalk.i64_in _ (by omega)
      have hws16 : IntKind.i64.wrap ((s : Int) + 16) = (s : Int) + 16 := IntWalk.i64_in _ (by omega)
      obtain ⟨p, hp⟩ : ∃ p, wLast (nextI k (whL s k)) (wFs s l i) = p := ⟨_, rfl⟩
      have HPE := Lib.hid hp
      have HPB := Lib.hid (show 0 ≤ p ∧ p ≤ 18446744073709551615 by rw [← hp]; exact wLast_bd (nextI_bd HK.out _) _)
      rw [hp]
      clear hcell hz hzb hp
      go_wp2_with fail
      refine (framed_any _ s i z HS.out HZB.out (by omega) _ rfl).mono ?_
      rintro e w4 ⟨A4, c4, rfl, hown4, hb4⟩
      obtain ⟨pg, hpg⟩ : ∃ x, pageL s z i = x := ⟨_, rfl⟩
      rw [hpg] at hown4
      have HPG := Lib.hid hpg
      have HPL := Lib.hid (show pg.length = s by rw [← hpg]; exact pageL_length (by omega) _ _)
      have HPI := Lib.hid (show IsB pg by rw [← hpg]; exact pageL_isB (by omega))
      have HO4 := Lib.hid hown4
      have HJ4 := Lib.hid (HJ.out.keep hb4)
      have HW4 := Lib.hid (HW.out.keep hb4)
      have HB4 := Lib.hid (HBW.out.trans (hb4.mono HBW.out.size))
      have HOK := Lib.hid (show okEnt ((i : Int) + 1) 0 s from ⟨by omega, by omega, rfl, HS.out⟩)
      clear hown4 hpg hb4 HJ HW HBW hci
      go_wp2_with fail
      refine (jEntry_any _ k ((i : Int) + 1) 0 A4 s c4 pg HK.out (by unfold i64ok; omega) (by unfold i64ok; omega) HPL.out HO4.out.cap.1 HO4.out.cap.2 HO4.out.rd HPI.out).mono ?_
      rintro e w5 ⟨Ax, nx, cx, rfl, hx1, hx2, hx3, hx4, hb5⟩
      have hxe : entL k ((i : Int) + 1) 0 pg = entH k ((i : Int) + 1) pg := if_pos (by rw [HPL.out]; exact HOK.out)
      have hxz : entE ((i : Int) + 1) 0 s = 0 := if_pos HOK.out
      rw [hxe] at hx1 hx4
      rw [hxz]
      obtain rfl : s + 8 = nx := by rw [← hx1, entH_length, HPL.out]; omega
      have HX5 := Lib.hid hx4
      have HXL := Lib.hid hx1
      have HO5 := Lib.hid (HO4.out.keep hb5)
      have HJ5 := Lib.hid (HJ4.out.keep hb5)
      have HW5 := Lib.hid (HW4.out.keep hb5)
      have HB5 := Lib.hid (HB4.out.trans (hb5.mono HB4.out.size))
      clear hx1 hx4 hb5 HO4 HJ4 HW4 HB4 hxe hxz
      go_wp2_with fail
      refine (wPut_ok _ p ((i : Int) + 1) ((i : Int) + 1) A4 s c4 pg HPB.out (by omega) (by omega) HPL.out HO5.out.cap.1 HO5.out.cap.2 HO5.out.rd HPI.out HS.out _ rfl).mono ?_
      rintro e w6 ⟨Ay, cy, rfl, hy2, hy3, hy4, hy5, hb6⟩
      have HX6 := Lib.hid (HX5.out.keep hb6)
      have HJ6 := Lib.hid (HJ5.out.keep hb6)
      have HW6 := Lib.hid (HW5.out.keep hb6)
      have HY6 := Lib.hid hy4
      have HYL := Lib.hid (show (wEnt p ((i : Int) + 1) ((i : Int) + 1) pg).length = s + 16 by rw [wEnt_length, HPL.out]; omega)
      have HB6 := Lib.hid (HB5.out.trans (hb6.mono HB5.out.size))
      have HNY := Lib.hid (show ∀ a b, Ba = some a → Ay = some b → a.block ≠ b.block from fun a b ha hb => by
        have h1 := HJ5.out.blk a ha
        have h2 := hy5 b hb
        omega)
      clear hy2 hy3 hy4 hy5 hb6 HX5 HJ5 HW5 HB5 HO5
      obtain ⟨p2, hp2⟩ : ∃ x, lnk p ((i : Int) + 1) ((i : Int) + 1) pg = x := ⟨_, rfl⟩
      have HP2 := Lib.hid hp2
      rw [hp2]
      clear hp2
      go_upto_region 18 with fail
      iterate 7 go_step
      refine wp_append_two rfl (.tmp 140) (.tmp 141) rfl w.heap.size Ba na da _ rfl HJ6.out Ax (s + 8) cx _ rfl HXL.out (by omega) HX6.out (by omega) HB6.out.size ?_
      intro A7 c7 w7 hj7 hch7 hlo7 hb7
      have HW7 := Lib.hid (HW6.out.chg hch7 HAP.out)
      have HY7 := Lib.hid (HY6.out.chg hch7 HNY.out)
      have HJ7 := Lib.hid hj7
      have HB7 := Lib.hid (HB6.out.trans hb7)
      have HAP7 := Lib.hid (show ∀ a b, A7 = some a → Bb = some b → a.block ≠ b.block from fun a b ha hb => by
        have h2 := HW6.out.blk b hb
        rcases hlo7 a ha with ⟨x, hx, e⟩ | e
        · rw [← e]; exact HAP.out x b hx hb
        · omega)
      clear hj7 hch7 hlo7 hb7 HJ6 HW6 HY6 HX6 HB6 HNY HAP
      try simp only [Act.put, List.setIfInBounds_toArray, List.set_cons_zero, List.set_cons_succ, List.getElem_toArray, List.getElem_cons_zero, List.getElem_cons_succ]
      iterate 6 go_step
      refine wp_append_two rfl (.tmp 143) (.tmp 144) rfl w.heap.size Bb nb db _ rfl HW7.out Ay (s + 16) cy _ rfl HYL.out (by omega) HY7.out (by omega) HB7.out.size ?_
      intro A8 c8 w8 hw8 hch8 hlo8 hb8
      have HJ8 := Lib.hid (HJ7.out.chg hch8 (fun a b ha hb => (HAP7.out b a hb ha).symm))
      have HW8 := Lib.hid hw8
      have HB8 := Lib.hid (HB7.out.trans hb8)
      have HAP8 := Lib.hid (show ∀ a b, A7 = some a → A8 = some b → a.block ≠ b.block from fun a b ha hb => by
        have h2 := HJ7.out.blk a ha
        rcases hlo8 b hb with ⟨x, hx, e⟩ | e
        · rw [← e]; exact HAP7.out a x ha hx
        · omega)
      clear hw8 hch8 hlo8 hb8 HJ7 HW7 HY7 HB7 HAP7
      have HREL := Lib.hid (show TFRel w s k l q (.slice A7 (na + (s + 8)) c7) (.slice A8 (nb + (s + 16)) c8) (.int .u64 p2) (.int .i64 ((i : Int) + 1)) w8 from by
        have ej : jourL s 1 k (jFs s l (i + 1)) = jourL s 1 k (jFs s l i) ++ entH k ((i : Int) + 1) pg := by rw [jFs_succ, jour_snoc, ← HPG.out, ← HZ.out]; rfl
        have ew : wlog s k (wFs s l (i + 1)) = wlog s k (wFs s l i) ++ wEnt p ((i : Int) + 1) ((i : Int) + 1) pg := by rw [wFs_succ, wlog_snoc, ← HPE.out, ← HPG.out, ← HZ.out]; rfl
        have el : wLast (nextI k (whL s k)) (wFs s l (i + 1)) = p2 := by rw [wFs_succ, wLast_snoc, HPE.out, ← HP2.out, ← HPG.out, ← HZ.out]; rfl
        exact ⟨i + 1, na + (s + 8), nb + (s + 16), A7, A8, c7, c8, hlt, by go_num, rfl, rfl, by rw [el], by omega, by omega, by rw [ej]; exact HJ8.out, by rw [ew]; exact HW8.out, HAP8.out, HB8.out⟩)
      go_wp2_with fail
      go_roundw
      case rel => exact HREL.out
      case measure => simp [intOf]; omega
    · obtain rfl : i = q := by omega
      have HJL := Lib.hid (show na = 28 + i * (s + 8) by rw [← HJ.out.len, jour_length (s := s) 1 k (jFs_ok (by omega) hq12), jFs_len])
      have HWL := Lib.hid (show nb = 20 + i * (s + 16) by rw [← HW.out.len, wlog_length k (fun f hf => (wFs_ok (l := l) (by omega) hq12 f hf).2.2.2.2.1), wFs_len])
      obtain ⟨kk, hkk, hk1⟩ := tmod_nat HCUT.out.1 (i + 1) (by omega)
      obtain ⟨pt0, hpt, hp1⟩ := tmod_nat (show (0 : Int) ≤ cut.tdiv 16 from Int.tdiv_nonneg HCUT.out.1 (by omega)) (s + 8) (by omega)
      have hc1 : ((i + 1 : Nat) : Int) = (i : Int) + 1 := by omega
      have hc8 : ((s + 8 : Nat) : Int) = (s : Int) + 8 := by omega
      rw [hc1] at hkk
      rw [hc8] at hpt
      obtain ⟨cb0, cb1⟩ := HCUT.out
      have hw16 : IntKind.i64.wrap cut = cut := IntWalk.i64_in _ (by omega)
      have hdv : 0 ≤ cut.tdiv 16 ∧ cut.tdiv 16 ≤ 65535 := by
        rw [Int.tdiv_eq_ediv_of_nonneg cb0]
        omega
      have hwd : IntKind.i64.wrap (cut.tdiv 16) = cut.tdiv 16 := IntWalk.i64_in _ (by omega)
      have hwdu : IntKind.u16.wrap (cut.tdiv 16) = cut.tdiv 16 := by simp [IntKind.wrap, IntKind.bits, IntKind.signed]; omega
      have hwi : IntKind.i64.wrap ((i : Int) + 1) = (i : Int) + 1 := IntWalk.i64_in _ (by omega)
      have hws8 : IntKind.i64.wrap ((s : Int) + 8) = (s : Int) + 8 := IntWalk.i64_in _ (by omega)
      have hws16 : IntKind.i64.wrap ((s : Int) + 16) = (s : Int) + 16 := IntWalk.i64_in _ (by omega)
      have hz1 : ¬ (i : Int) + 1 = 0 := by omega
      have hz2 : ¬ (s : Int) + 8 = 0 := by omega
      have hlt' : ¬ (i : Int) < (i : Int) := by omega
      clear hc1 hc8 hdv hlt hi
      go_upto_region 22 with fail
      clear hkk hpt cb0 cb1 hw16 hwd hwdu hz1 hz2 hlt' hwi hws8 hws16
      by_cases hkq : kk = i
      · have heq : ((kk : Int) == (i : Int)) = true := by rw [hkq]; simp
        have hle1 : kk * (s + 8) + 0 ≤ i * (s + 8) := cut_le (by omega) (by omega) (fun _ => rfl)
        have hle2 : kk * (s + 16) + 0 ≤ i * (s + 16) := cut_le (by omega) (by omega) (fun _ => rfl)
        have hup1 : i * (s + 8) ≤ 12 * 1032 := Nat.mul_le_mul hq12 (by omega)
        have hup2 : i * (s + 16) ≤ 12 * 1040 := Nat.mul_le_mul hq12 (by omega)
        have HC1 := Lib.hid (jour_cut2 HS.out HK.out l hq12 (show kk ≤ i by omega) (show 0 < s + 8 by omega))
        obtain ⟨t, ht⟩ := wlog_cut HS.out HK.out l hq12 (show kk ≤ i by omega) (show 0 < s + 16 by omega)
        obtain ⟨J, hJ⟩ : ∃ J, kk * (s + 8) = J := ⟨_, rfl⟩
        obtain ⟨V, hV⟩ : ∃ V, kk * (s + 16) = V := ⟨_, rfl⟩
        have eJ : (kk : Int) * ((s : Int) + 8) = (J : Int) := by rw [← hJ]; simp
        have eV : (kk : Int) * ((s : Int) + 16) = (V : Int) := by rw [← hV]; simp
        rw [hJ] at hle1 HC1
        rw [hV] at hle2 ht
        have h1na := HJL.out
        have h2nb := HWL.out
        obtain ⟨X1, hX1⟩ : ∃ X, 28 + (J + 0) = X := ⟨_, rfl⟩
        obtain ⟨X2, hX2⟩ : ∃ X, 20 + V + 0 = X := ⟨_, rfl⟩
        rw [hX1] at HC1
        rw [hX2] at ht
        have hc1 : (X1 : Int) = 28 + (J : Int) := by omega
        have hc2 : (X2 : Int) = 20 + (V : Int) := by omega
        have hjc := HJ.out.cap
        have hwc := HW.out.cap
        have hjm := HJ.out.most
        have hwm := HW.out.most
        unfold maxLen at hjm hwm
        have hx1 : X1 ≤ da := by omega
        have hx2 : X2 ≤ db := by omega
        have hsl1 := run_cutB_to Ba na da X1 hx1
        have hsl2 := run_cutB_to Bb nb db X2 hx2
        rw [hc1] at hsl1
        rw [hc2] at hsl2
        have HL1 := Lib.hid (show ((jourL s 1 k (jFs s l i)).take X1).length = X1 by rw [List.length_take, HJ.out.len]; omega)
        have HL2 := Lib.hid (show ((wlog s k (wFs s l i)).take X2).length = X2 by rw [List.length_take, HW.out.len]; omega)
        have HI1 := Lib.hid (show IsB ((jourL s 1 k (jFs s l i)).take X1) from isB_take (jour_isB (jFs_ok (by omega) hq12)) X1)
        have HI2 := Lib.hid (show IsB ((wlog s k (wFs s l i)).take X2) from isB_take (wlog_isB (fun f hf => (wFs_ok (l := l) (by omega) hq12 f hf).2.2.2.2.2)) X2)
        have HT := Lib.hid ht
        have HX1 := Lib.hid (show X1 ≤ da ∧ X1 ≤ 900000000000 by omega)
        have HX2 := Lib.hid (show X2 ≤ db ∧ X2 ≤ 1000000 by omega)
        have HVV := Lib.hid hV
        have bJ : -9223372036854775808 ≤ (J : Int) ∧ (J : Int) ≤ 9223372036854775807 := by omega
        have bV : -9223372036854775808 ≤ (V : Int) ∧ (V : Int) ≤ 9223372036854775807 := by omega
        have bJ2 : -9223372036854775808 ≤ 28 + (J : Int) ∧ 28 + (J : Int) ≤ 9223372036854775807 := by omega
        have bV2 : -9223372036854775808 ≤ 20 + (V : Int) ∧ 20 + (V : Int) ≤ 9223372036854775807 := by omega
        have bJ3 : -9223372036854775808 ≤ 28 + (J : Int) ∧ 28 + (J : Int) ≤ 9223372036854775807 := by omega
        have bV3 : -9223372036854775808 ≤ 20 + (V : Int) ∧ 20 + (V : Int) ≤ 9223372036854775807 := by omega
        have bs8 : -9223372036854775808 ≤ (s : Int) + 8 ∧ (s : Int) + 8 ≤ 9223372036854775807 := by omega
        have bs16 : -9223372036854775808 ≤ (s : Int) + 16 ∧ (s : Int) + 16 ≤ 9223372036854775807 := by omega
        have hlk : kk ≤ 12 ∧ kk ≤ i := by omega
        have hws8 : IntKind.i64.wrap ((s : Int) + 8) = (s : Int) + 8 := IntWalk.i64_in _ bs8
        have hws16 : IntKind.i64.wrap ((s : Int) + 16) = (s : Int) + 16 := IntWalk.i64_in _ bs16
        have hmul1 : IntKind.i64.wrap ((kk : Int) * ((s : Int) + 8)) = (J : Int) := by rw [eJ]; exact IntWalk.i64_in _ bJ
        have hmul2 : IntKind.i64.wrap ((kk : Int) * ((s : Int) + 16)) = (V : Int) := by rw [eV]; exact IntWalk.i64_in _ bV
        have ha1 : IntKind.i64.wrap (28 + (J : Int)) = 28 + (J : Int) := IntWalk.i64_in _ bJ2
        have ha2 : IntKind.i64.wrap (20 + (V : Int)) = 20 + (V : Int) := IntWalk.i64_in _ bV2
        clear bJ bV bJ2 bV2 bJ3 bV3 bs8 bs16
        clear hkq hle1 hle2 hup1 hup2 hJ hV eJ eV h1na h2nb hX1 hX2 hjc hwc hjm hwm ht hc1 hc2 hx1 hx2
        go_upto_region 24 with fail
        clear heq
        go_wp2_with fail
        refine (scan_any _ Ba X1 da _ HL1.out HX1.out.1 HJ.out.most (rd_take HJ.out.rd X1) HI1.out HX1.out.2).mono ?_
        rintro e w4 ⟨P, m4, c4, rfl, hm4, _, hrdp, hb4⟩
        rw [HC1.out] at hm4 hrdp ⊢
        obtain rfl : kk = m4 := by rw [← hm4]; exact (jFs_len s l kk).symm
        have HP4 := Lib.hid hrdp
        have HW4 := Lib.hid (HW.out.keep hb4)
        have HB4 := Lib.hid (HBW.out.trans (hb4.mono HBW.out.size))
        clear hm4 hrdp hb4 HJ
        go_wp2_with fail
        refine (wscan_ok _ Bb X2 db s k (wFs s l kk) _ t HT.out HL2.out HX2.out.1 HW4.out.most (rd_take HW4.out.rd X2) HI2.out HX2.out.2 _ rfl).mono ?_
        rintro e w5 ⟨Q, dq, rfl, hq1, hq2, hrdq, hb5⟩
        have HP5 := Lib.hid (HP4.out.keep hb5)
        have HQ5 := Lib.hid hrdq
        have HB5 := Lib.hid (HB4.out.trans (hb5.mono HB4.out.size))
        have he5 : (((20 + (wFs s l kk).length * (s + 16) : Nat) : Nat) : Int) = 20 + (V : Int) := by rw [wFs_len, HVV.out]; simp
        rw [he5, wFs_len]
        rw [wFs_len] at hq1
        clear he5 hrdq hb5 HW4 HP4 HB4 HW
        go_upto_region 28 with fail
        clear hmul1 hmul2 ha1 ha2 hsl1 hsl2 hws8 hws16 HJL HWL HC1 HL1 HL2 HI1 HI2 HT HX1 HX2 HVV HAP hna hnb hk1 hp1
        go_wp2_with fail
        go_loopw [224] (fun v224 wx => ∃ i2 : Nat, i2 ≤ kk ∧ v224 = .int .i64 (i2 : Int) ∧ Below w5.heap.size w5 wx) (fun v224 _ => kk - (intOf v224).toNat)
        case atStart => exact ⟨0, Nat.zero_le _, rfl, Below.refl _ _⟩
        case round =>
          rename World => wx
          obtain ⟨i2, hi2, rfl, hbx⟩ := hrel
          have HBX := Lib.hid hbx
          clear hbx
          by_cases hlt2 : i2 < kk
          · obtain ⟨b1, o1, hAe, hbl, hcell⟩ := (HA.out.keep (HB5.out.trans (HBX.out.mono HB5.out.size))).at (by rw [HN.out]; omega)
            subst hAe
            have hci := hcell i2 (by rw [HN.out]; omega)
            obtain ⟨pb, po, hpe, hpc⟩ := (HP5.out.keep HBX.out).at (by rw [jFs_len]; omega)
            obtain ⟨qb, qo, hqe, hqc⟩ := (HQ5.out.keep HBX.out).at (by rw [wFs_len]; omega)
            subst hpe
            subst hqe
            obtain ⟨A1, c1, p0, p1, p2, p3, p4, p5⟩ := hpc i2 (by rw [jFs_len]; exact hlt2)
            obtain ⟨A2, c2, r0, r1, r2, r3, r4, r5⟩ := hqc i2 (by rw [wFs_len]; exact hlt2)
            rw [jFs_at hlt2] at p0 p2 p3 p5
            rw [wFs_at hlt2] at r0 r2 r3 r5
            simp only [jF] at p0 p2 p3 p5
            simp only [wF] at r0 r2 r3 r5
            obtain ⟨z, hz⟩ : ∃ z, bt l i2 = z := ⟨_, rfl⟩
            have hzb : 0 ≤ z ∧ z ≤ 255 := by rw [← hz]; exact HB.out.bt i2
            rw [hz] at hci p2 p3 p5 r2 r3 r5
            obtain ⟨pg, hpg⟩ : ∃ x, pageL s z i2 = x := ⟨_, rfl⟩
            have hpl : pg.length = s := by rw [← hpg]; exact pageL_length (by omega) _ _
            have HPI := Lib.hid (show IsB pg by rw [← hpg]; exact pageL_isB (by omega))
            obtain ⟨hd1, hd2, hd3⟩ := page_dec i2 HS.out hzb
            rw [hpg] at hd1 hd2 hd3 p2 p3 p5 r2 r3 r5
            rw [hpl] at p2 p3 r2 r3
            have HPL := Lib.hid hpl
            have HD1 := Lib.hid hd1
            have HD2 := Lib.hid hd2
            have HD3 := Lib.hid hd3
            have HP3 := Lib.hid p3
            have HR3 := Lib.hid r3
            have HP5' := Lib.hid p5
            have HR5 := Lib.hid r5
            have HSL := Lib.hid (seal_is pg)
            rw [hpl] at HSL
            have hwz : IntKind.i64.wrap z = z := IntWalk.i64_in _ (by omega)
            have hw2 : IntKind.i64.wrap ((i2 : Int) + 1) = (i2 : Int) + 1 := IntWalk.i64_in _ (by omega)
            have hltk : (i2 : Int) < (kk : Int) := by omega
            have hlti : (i2 : Int) < (i : Int) := by omega
            have i200 : (0 : Int) ≤ (i2 : Int) := by omega
            have HS64 := Lib.hid (show 64 ≤ s by omega)
            have HSB := Lib.hid (show s ≤ 140737488351232 by omega)
            clear hcell hpc hqc hz hzb hpg hpl hd1 hd2 hd3 p1 p3 p5 r1 r3 r5 hbl
            go_wp2_with fail
            refine (decode_good _ A1 s c1 pg HPL.out HP3.out p4 HP5'.out HPI.out HS64.out HD2.out HD3.out _ rfl).mono ?_
            rintro e w6 ⟨rfl, hb6⟩
            rw [HD1.out]
            simp only [hdF, Hd.val]
            go_upto_region 32 with fail
            obtain ⟨W7, hW7⟩ : ∃ W, W = w6.alloc (.cells #[.int .i64 (s : Int), .int .i64 1, .int .i64 0, .int .i64 0, .int .i64 z, .int .i64 0] 23) := ⟨_, rfl⟩
            have hb67 : Below w6.heap.size w6 W7 := by rw [hW7]; exact (Below.refl _ _).alloc (Nat.le_refl _) _
            have hbx7 := hb6.trans (hb67.mono hb6.size)
            have k4 : W7.cell? ⟨w6.heap.size, 4, none⟩ = some (.int .i64 z) := by rw [hW7]; simp [go_sem]
            rw [← hW7]
            clear hW7
            have KC : ∀ W : World, Below W7.heap.size W7 W → W.cell? ⟨w6.heap.size, 4, none⟩ = some (.int .i64 z) := fun W hW => (hW.cell (World.block_lt_of_cell? _ _ k4)).trans k4
            have hkeep : ∀ {a : Addr} {v : Value}, wx.cell? a = some v → ∀ W : World, Below W7.heap.size W7 W → W.cell? a = some v := fun {a v} h W hW => by
              have h7 := (hbx7.cell (World.block_lt_of_cell? _ _ h)).trans h
              exact (hW.cell (World.block_lt_of_cell? _ _ h7)).trans h7
            have KL := hkeep hci
            have KP0 := hkeep p0
            have KP2 := hkeep p2
            have KQ0 := hkeep r0
            have KQ2 := hkeep r2
            have HRP := Lib.hid (HP5'.out.keep hbx7)
            have HRQ := Lib.hid (HR5.out.keep hbx7)
            have hstr1 : ∀ W : World, Below W7.heap.size W7 W → (convert 24 9 (.slice A1 s c1)).run Try.prog W = .ok (.string (strOfNums pg)) W := fun W hW => run_str W A1 s c1 pg HPL.out (HRP.out.keep hW)
            have hstr2 : ∀ W : World, Below W7.heap.size W7 W → (convert 24 9 (.slice A2 s c2)).run Try.prog W = .ok (.string (strOfNums pg)) W := fun W hW => run_str W A2 s c2 pg HPL.out (HRQ.out.keep hW)
            have HB7 := Lib.hid (HBX.out.trans (hbx7.mono HBX.out.size))
            obtain ⟨g7, hg7⟩ : ∃ g, w6.heap.size = g := ⟨_, rfl⟩
            rw [hg7] at KC ⊢
            clear hci p0 p2 r0 r2 k4 hkeep hb67 hbx7 hb6 hg7
            refine wp_region_held_drew (S := (fun W => Below W7.heap.size W7 W)) (by kernel_rfl) ?_ (fun hHeld => ?_)
            · exact (Below.refl _ W7).drew
            refine' wpAnyH_take (i := 0) (oi := _) (v := _) rfl (by kernel_rfl) (by kernel_rfl) (by kernel_rfl) (fun _ _ _ h => h) (Or.inl ⟨by rfl, ?hz1⟩) (by assumption) ?rezt1
            case hz1 => (intro w' hSw; (try dsimp only at hSw); go_simp; try with_reducible rfl)
            try simp only [Act.put, List.setIfInBounds_toArray, List.set_cons_zero, List.set_cons_succ, List.getElem_toArray, List.getElem_cons_zero, List.getElem_cons_succ]
            refine' wpAnyH_take (i := 1) (oi := _) (v := _) rfl (by kernel_rfl) (by kernel_rfl) (by kernel_rfl) (fun _ _ _ h => h) (Or.inl ⟨by rfl, ?hz2⟩) (by assumption) ?rezt2
            case hz2 => (intro w' hSw; (try dsimp only at hSw); go_simp; try with_reducible rfl)
            try simp only [Act.put, List.setIfInBounds_toArray, List.set_cons_zero, List.set_cons_succ, List.getElem_toArray, List.getElem_cons_zero, List.getElem_cons_succ]
            refine' wpAnyH_take (i := 2) (oi := _) (v := _) rfl (by kernel_rfl) (by kernel_rfl) (by kernel_rfl) (fun _ _ _ h => h) (Or.inl ⟨by rfl, ?hz3⟩) (by assumption) ?rezt3
            case hz3 => (intro w' hSw; (try dsimp only at hSw); go_simp; try with_reducible rfl)
            try simp only [Act.put, List.setIfInBounds_toArray, List.set_cons_zero, List.set_cons_succ, List.getElem_toArray, List.getElem_cons_zero, List.getElem_cons_succ]
            refine' wpAnyH_take (i := 3) (oi := _) (v := _) rfl (by kernel_rfl) (by kernel_rfl) (by kernel_rfl) (fun _ _ _ h => h) (Or.inl ⟨by rfl, ?hz4⟩) (by assumption) ?rezt4
            case hz4 => (intro w' hSw; (try dsimp only at hSw); go_simp; try with_reducible rfl)
            try simp only [Act.put, List.setIfInBounds_toArray, List.set_cons_zero, List.set_cons_succ, List.getElem_toArray, List.getElem_cons_zero, List.getElem_cons_succ]
            refine' wpAnyH_take (i := 4) (oi := _) (v := _) rfl (by kernel_rfl) (by kernel_rfl) (by kernel_rfl) (fun _ _ _ h => h) (Or.inl ⟨by rfl, ?hz5⟩) (by assumption) ?rezt5
            case hz5 => (intro w' hSw; (try dsimp only at hSw); go_simp; try with_reducible rfl)
            try simp only [Act.put, List.setIfInBounds_toArray, List.set_cons_zero, List.set_cons_succ, List.getElem_toArray, List.getElem_cons_zero, List.getElem_cons_succ]
            refine' wpAnyH_take (i := 5) (oi := _) (v := _) rfl (by kernel_rfl) (by kernel_rfl) (by kernel_rfl) (fun _ _ _ h => h) (Or.inl ⟨by rfl, ?hz6⟩) (by assumption) ?rezt6
            case hz6 => (intro w' hSw; (try dsimp only at hSw); go_simp; try with_reducible rfl)
            try simp only [Act.put, List.setIfInBounds_toArray, List.set_cons_zero, List.set_cons_succ, List.getElem_toArray, List.getElem_cons_zero, List.getElem_cons_succ]
            refine' wpAnyH_take (i := 6) (oi := _) (v := _) rfl (by kernel_rfl) (by kernel_rfl) (by kernel_rfl) (fun _ _ _ h => h) (Or.inl ⟨by rfl, ?hz7⟩) (by assumption) ?rezt7
            case hz7 => (intro w' hSw; (try dsimp only at hSw); go_simp; try with_reducible rfl)
            try simp only [Act.put, List.setIfInBounds_toArray, List.set_cons_zero, List.set_cons_succ, List.getElem_toArray, List.getElem_cons_zero, List.getElem_cons_succ]
            refine' wpAnyH_take (i := 7) (oi := _) (v := _) rfl (by kernel_rfl) (by kernel_rfl) (by kernel_rfl) (fun _ _ _ h => h) (Or.inl ⟨by rfl, ?hz8⟩) (by assumption) ?rezt8
            case hz8 => (intro w' hSw; (try dsimp only at hSw); go_simp; try with_reducible rfl)
            try simp only [Act.put, List.setIfInBounds_toArray, List.set_cons_zero, List.set_cons_succ, List.getElem_toArray, List.getElem_cons_zero, List.getElem_cons_succ]
            refine' wpAnyH_take (i := 8) (oi := _) (v := _) rfl (by kernel_rfl) (by kernel_rfl) (by kernel_rfl) (fun _ _ _ h => h) (Or.inl ⟨by rfl, ?hz9⟩) (by assumption) ?rezt9
            case hz9 => (intro w' hSw; (try dsimp only at hSw); go_simp; try with_reducible rfl)
            try simp only [Act.put, List.setIfInBounds_toArray, List.set_cons_zero, List.set_cons_succ, List.getElem_toArray, List.getElem_cons_zero, List.getElem_cons_succ]
            refine' wpAnyH_take (i := 9) (oi := _) (v := _) rfl (by kernel_rfl) (by kernel_rfl) (by kernel_rfl) (fun _ _ _ h => h) (Or.inl ⟨by rfl, ?hz10⟩) (by assumption) ?rezt10
            case hz10 => (intro w' hSw; (try dsimp only at hSw); go_simp; try with_reducible rfl)
            try simp only [Act.put, List.setIfInBounds_toArray, List.set_cons_zero, List.set_cons_succ, List.getElem_toArray, List.getElem_cons_zero, List.getElem_cons_succ]
            refine' wpAnyH_take (i := 10) (oi := _) (v := _) rfl (by kernel_rfl) (by kernel_rfl) (by kernel_rfl) (fun _ _ _ h => h) (Or.inl ⟨by rfl, ?hz11⟩) (by assumption) ?rezt11
            case hz11 => (intro w' hSw; (try dsimp only at hSw); go_simp; try with_reducible rfl)
            try simp only [Act.put, List.setIfInBounds_toArray, List.set_cons_zero, List.set_cons_succ, List.getElem_toArray, List.getElem_cons_zero, List.getElem_cons_succ]
            refine' wpAnyH_take (i := 11) (oi := _) (v := _) rfl (by kernel_rfl) (by kernel_rfl) (by kernel_rfl) (fun _ _ _ h => h) (Or.inl ⟨by rfl, ?hz12⟩) (by assumption) ?rezt12
            case hz12 => (intro w' hSw; (try dsimp only at hSw); go_simp; try with_reducible rfl)
            try simp only [Act.put, List.setIfInBounds_toArray, List.set_cons_zero, List.set_cons_succ, List.getElem_toArray, List.getElem_cons_zero, List.getElem_cons_succ]
            refine' wpAnyH_take (i := 12) (oi := _) (v := _) rfl (by kernel_rfl) (by kernel_rfl) (by kernel_rfl) (fun _ _ _ h => h) (Or.inl ⟨by rfl, ?hz13⟩) (by assumption) ?rezt13
            case hz13 => (intro w' hSw; (try dsimp only at hSw); go_simp; try with_reducible rfl)
            try simp only [Act.put, List.setIfInBounds_toArray, List.set_cons_zero, List.set_cons_succ, List.getElem_toArray, List.getElem_cons_zero, List.getElem_cons_succ]
            refine' wpAnyH_take (i := 13) (oi := _) (v := _) rfl (by kernel_rfl) (by kernel_rfl) (by kernel_rfl) (fun _ _ _ h => h) (Or.inl ⟨by rfl, ?hz14⟩) (by assumption) ?rezt14
            case hz14 => (intro w' hSw; (try dsimp only at hSw); go_simp; try with_reducible rfl)
            try simp only [Act.put, List.setIfInBounds_toArray, List.set_cons_zero, List.set_cons_succ, List.getElem_toArray, List.getElem_cons_zero, List.getElem_cons_succ]
            refine' wpAnyH_take (i := 14) (oi := _) (v := _) rfl (by kernel_rfl) (by kernel_rfl) (by kernel_rfl) (fun _ _ _ h => h) (Or.inl ⟨by rfl, ?hz15⟩) (by assumption) ?rezt15
            case hz15 => (intro w' hSw; (try dsimp only at hSw); go_simp; try with_reducible rfl)
            try simp only [Act.put, List.setIfInBounds_toArray, List.set_cons_zero, List.set_cons_succ, List.getElem_toArray, List.getElem_cons_zero, List.getElem_cons_succ]
            refine' wpAnyH_take (i := 15) (oi := _) (v := _) rfl (by kernel_rfl) (by kernel_rfl) (by kernel_rfl) (fun _ _ _ h => h) (Or.inl ⟨by rfl, ?hz16⟩) (by assumption) ?rezt16
            case hz16 => (intro w' hSw; (try dsimp only at hSw); go_simp; try with_reducible rfl)
            try simp only [Act.put, List.setIfInBounds_toArray, List.set_cons_zero, List.set_cons_succ, List.getElem_toArray, List.getElem_cons_zero, List.getElem_cons_succ]
            refine' wpAnyH_take (i := 16) (oi := _) (v := _) rfl (by kernel_rfl) (by kernel_rfl) (by kernel_rfl) (fun _ _ _ h => h) (Or.inl ⟨by rfl, ?hz17⟩) (by assumption) ?rezt17
            case hz17 => (intro w' hSw; (try dsimp only at hSw); go_simp; try with_reducible rfl)
            try simp only [Act.put, List.setIfInBounds_toArray, List.set_cons_zero, List.set_cons_succ, List.getElem_toArray, List.getElem_cons_zero, List.getElem_cons_succ]
            refine' wpAnyH_take (i := 17) (oi := _) (v := _) rfl (by kernel_rfl) (by kernel_rfl) (by kernel_rfl) (fun _ _ _ h => h) (Or.inl ⟨by rfl, ?hz18⟩) (by assumption) ?rezt18
            case hz18 => (intro w' hSw; (try dsimp only at hSw); go_simp; try with_reducible rfl)
            try simp only [Act.put, List.setIfInBounds_toArray, List.set_cons_zero, List.set_cons_succ, List.getElem_toArray, List.getElem_cons_zero, List.getElem_cons_succ]
            refine' wpAnyH_take (i := 18) (oi := _) (v := _) rfl (by kernel_rfl) (by kernel_rfl) (by kernel_rfl) (fun _ _ _ h => h) (Or.inl ⟨by rfl, ?hz19⟩) (by assumption) ?rezt19
            case hz19 => (intro w' hSw; (try dsimp only at hSw); go_simp; try with_reducible rfl)
            try simp only [Act.put, List.setIfInBounds_toArray, List.set_cons_zero, List.set_cons_succ, List.getElem_toArray, List.getElem_cons_zero, List.getElem_cons_succ]
            refine' wpAnyH_take (i := 19) (oi := _) (v := _) rfl (by kernel_rfl) (by kernel_rfl) (by kernel_rfl) (fun _ _ _ h => h) (Or.inl ⟨by rfl, ?hz20⟩) (by assumption) ?rezt20
            case hz20 => (intro w' hSw; (try dsimp only at hSw); go_simp; try with_reducible rfl)
            try simp only [Act.put, List.setIfInBounds_toArray, List.set_cons_zero, List.set_cons_succ, List.getElem_toArray, List.getElem_cons_zero, List.getElem_cons_succ]
            refine' wpAnyH_take (i := 20) (oi := _) (v := _) rfl (by kernel_rfl) (by kernel_rfl) (by kernel_rfl) (fun _ _ _ h => h) (Or.inl ⟨by rfl, ?hz21⟩) (by assumption) ?rezt21
            case hz21 => (intro w' hSw; (try dsimp only at hSw); go_simp; try with_reducible rfl)
            try simp only [Act.put, List.setIfInBounds_toArray, List.set_cons_zero, List.set_cons_succ, List.getElem_toArray, List.getElem_cons_zero, List.getElem_cons_succ]
            refine' wpAnyH_take (i := 21) (oi := _) (v := _) rfl (by kernel_rfl) (by kernel_rfl) (by kernel_rfl) (fun _ _ _ h => h) (Or.inl ⟨by rfl, ?hz22⟩) (by assumption) ?rezt22
            case hz22 => (intro w' hSw; (try dsimp only at hSw); go_simp; try with_reducible rfl)
            try simp only [Act.put, List.setIfInBounds_toArray, List.set_cons_zero, List.set_cons_succ, List.getElem_toArray, List.getElem_cons_zero, List.getElem_cons_succ]
            refine' wpAnyH_take (i := 22) (oi := _) (v := _) rfl (by kernel_rfl) (by kernel_rfl) (by kernel_rfl) (fun _ _ _ h => h) (Or.inl ⟨by rfl, ?hz23⟩) (by assumption) ?rezt23
            case hz23 => (intro w' hSw; (try dsimp only at hSw); go_simp; try with_reducible rfl)
            try simp only [Act.put, List.setIfInBounds_toArray, List.set_cons_zero, List.set_cons_succ, List.getElem_toArray, List.getElem_cons_zero, List.getElem_cons_succ]
            refine' wpAnyH_take (i := 23) (oi := _) (v := _) rfl (by kernel_rfl) (by kernel_rfl) (by kernel_rfl) (fun _ _ _ h => h) (Or.inl ⟨by rfl, ?hz24⟩) (by assumption) ?rezt24
            case hz24 => (intro w' hSw; (try dsimp only at hSw); go_simp; try with_reducible rfl)
            try simp only [Act.put, List.setIfInBounds_toArray, List.set_cons_zero, List.set_cons_succ, List.getElem_toArray, List.getElem_cons_zero, List.getElem_cons_succ]
            refine' wpAnyH_take (i := 24) (oi := _) (v := _) rfl (by kernel_rfl) (by kernel_rfl) (by kernel_rfl) (fun _ _ _ h => h) (Or.inl ⟨by rfl, ?hz25⟩) (by assumption) ?rezt25
            case hz25 => (intro w' hSw; (try dsimp only at hSw); go_simp; try with_reducible rfl)
            try simp only [Act.put, List.setIfInBounds_toArray, List.set_cons_zero, List.set_cons_succ, List.getElem_toArray, List.getElem_cons_zero, List.getElem_cons_succ]
            refine' wpAnyH_take (i := 25) (oi := _) (v := _) rfl (by kernel_rfl) (by kernel_rfl) (by kernel_rfl) (fun _ _ _ h => h) (Or.inl ⟨by rfl, ?hz26⟩) (by assumption) ?rezt26
            case hz26 => (intro w' hSw; (try dsimp only at hSw); go_simp; try with_reducible rfl)
            try simp only [Act.put, List.setIfInBounds_toArray, List.set_cons_zero, List.set_cons_succ, List.getElem_toArray, List.getElem_cons_zero, List.getElem_cons_succ]
            refine' wpAnyH_take (i := 26) (oi := _) (v := _) rfl (by kernel_rfl) (by kernel_rfl) (by kernel_rfl) (fun _ _ _ h => h) (Or.inl ⟨by rfl, ?hz27⟩) (by assumption) ?rezt27
            case hz27 => (intro w' hSw; (try dsimp only at hSw); go_simp; try with_reducible rfl)
            try simp only [Act.put, List.setIfInBounds_toArray, List.set_cons_zero, List.set_cons_succ, List.getElem_toArray, List.getElem_cons_zero, List.getElem_cons_succ]
            refine' wpAnyH_take (i := 27) (oi := _) (v := _) rfl (by kernel_rfl) (by kernel_rfl) (by kernel_rfl) (fun _ _ _ h => h) (Or.inl ⟨by rfl, ?hz28⟩) (by assumption) ?rezt28
            case hz28 => (intro w' hSw; (try dsimp only at hSw); go_simp; try with_reducible rfl)
            try simp only [Act.put, List.setIfInBounds_toArray, List.set_cons_zero, List.set_cons_succ, List.getElem_toArray, List.getElem_cons_zero, List.getElem_cons_succ]
            refine' wpAnyH_take (i := 28) (oi := _) (v := _) rfl (by kernel_rfl) (by kernel_rfl) (by kernel_rfl) (fun _ _ _ h => h) (Or.inl ⟨by rfl, ?hz29⟩) (by assumption) ?rezt29
            case hz29 => (intro w' hSw; (try dsimp only at hSw); go_simp; try with_reducible rfl)
            try simp only [Act.put, List.setIfInBounds_toArray, List.set_cons_zero, List.set_cons_succ, List.getElem_toArray, List.getElem_cons_zero, List.getElem_cons_succ]
            refine' wpAnyH_take (i := 29) (oi := _) (v := _) rfl (by kernel_rfl) (by kernel_rfl) (by kernel_rfl) (fun _ _ _ h => h) (Or.inl ⟨by rfl, ?hz30⟩) (by assumption) ?rezt30
            case hz30 => (intro w' hSw; (try dsimp only at hSw); go_simp; try with_reducible rfl)
            try simp only [Act.put, List.setIfInBounds_toArray, List.set_cons_zero, List.set_cons_succ, List.getElem_toArray, List.getElem_cons_zero, List.getElem_cons_succ]
            refine' wpAnyH_take (i := 30) (oi := _) (v := _) rfl (by kernel_rfl) (by kernel_rfl) (by kernel_rfl) (fun _ _ _ h => h) (Or.inl ⟨by rfl, ?hz31⟩) (by assumption) ?rezt31
            case hz31 => (intro w' hSw; (try dsimp only at hSw); go_simp; try with_reducible rfl)
            try simp only [Act.put, List.setIfInBounds_toArray, List.set_cons_zero, List.set_cons_succ, List.getElem_toArray, List.getElem_cons_zero, List.getElem_cons_succ]
            refine' wpAnyH_take (i := 31) (oi := _) (v := _) rfl (by kernel_rfl) (by kernel_rfl) (by kernel_rfl) (fun _ _ _ h => h) (Or.inl ⟨by rfl, ?hz32⟩) (by assumption) ?rezt32
            case hz32 => (intro w' hSw; (try dsimp only at hSw); go_simp; try with_reducible rfl)
            try simp only [Act.put, List.setIfInBounds_toArray, List.set_cons_zero, List.set_cons_succ, List.getElem_toArray, List.getElem_cons_zero, List.getElem_cons_succ]
            refine' wpAnyH_take (i := 32) (oi := _) (v := _) rfl (by kernel_rfl) (by kernel_rfl) (by kernel_rfl) (fun _ _ _ h => h) (Or.inl ⟨by rfl, ?hz33⟩) (by assumption) ?rezt33
            case hz33 => (intro w' hSw; (try dsimp only at hSw); go_simp; try with_reducible rfl)
            try simp only [Act.put, List.setIfInBounds_toArray, List.set_cons_zero, List.set_cons_succ, List.getElem_toArray, List.getElem_cons_zero, List.getElem_cons_succ]
            refine' wpAnyH_take (i := 33) (oi := _) (v := _) rfl (by kernel_rfl) (by kernel_rfl) (by kernel_rfl) (fun _ _ _ h => h) (Or.inl ⟨by rfl, ?hz34⟩) (by assumption) ?rezt34
            case hz34 => (intro w' hSw; (try dsimp only at hSw); go_simp; try with_reducible rfl)
            try simp only [Act.put, List.setIfInBounds_toArray, List.set_cons_zero, List.set_cons_succ, List.getElem_toArray, List.getElem_cons_zero, List.getElem_cons_succ]
            refine' wpAnyH_take (i := 34) (oi := _) (v := _) rfl (by kernel_rfl) (by kernel_rfl) (by kernel_rfl) (fun _ _ _ h => h) (Or.inl ⟨by rfl, ?hz35⟩) (by assumption) ?rezt35
            case hz35 => (intro w' hSw; (try dsimp only at hSw); go_simp; try with_reducible rfl)
            try simp only [Act.put, List.setIfInBounds_toArray, List.set_cons_zero, List.set_cons_succ, List.getElem_toArray, List.getElem_cons_zero, List.getElem_cons_succ]
            refine' wpAnyH_take (i := 35) (oi := _) (v := _) rfl (by kernel_rfl) (by kernel_rfl) (by kernel_rfl) (fun _ _ _ h => h) (Or.inl ⟨by rfl, ?hz36⟩) (by assumption) ?rezt36
            case hz36 => (intro w' hSw; (try dsimp only at hSw); go_simp; try with_reducible rfl)
            try simp only [Act.put, List.setIfInBounds_toArray, List.set_cons_zero, List.set_cons_succ, List.getElem_toArray, List.getElem_cons_zero, List.getElem_cons_succ]
            refine' wpAnyH_take (i := 36) (oi := _) (v := _) rfl (by kernel_rfl) (by kernel_rfl) (by kernel_rfl) (fun _ _ _ h => h) (Or.inl ⟨by rfl, ?hz37⟩) (by assumption) ?rezt37
            case hz37 => (intro w' hSw; (try dsimp only at hSw); go_simp; try with_reducible rfl)
            try simp only [Act.put, List.setIfInBounds_toArray, List.set_cons_zero, List.set_cons_succ, List.getElem_toArray, List.getElem_cons_zero, List.getElem_cons_succ]
            refine' wpAnyH_take (i := 37) (oi := _) (v := _) rfl (by kernel_rfl) (by kernel_rfl) (by kernel_rfl) (fun _ _ _ h => h) (Or.inl ⟨by rfl, ?hz38⟩) (by assumption) ?rezt38
            case hz38 => (intro w' hSw; (try dsimp only at hSw); go_simp; try with_reducible rfl)
            try simp only [Act.put, List.setIfInBounds_toArray, List.set_cons_zero, List.set_cons_succ, List.getElem_toArray, List.getElem_cons_zero, List.getElem_cons_succ]
            refine' wpAnyH_take (i := 38) (oi := _) (v := _) rfl (by kernel_rfl) (by kernel_rfl) (by kernel_rfl) (fun _ _ _ h => h) (Or.inl ⟨by rfl, ?hz39⟩) (by assumption) ?rezt39
            case hz39 => (intro w' hSw; (try dsimp only at hSw); go_simp; try with_reducible rfl)
            try simp only [Act.put, List.setIfInBounds_toArray, List.set_cons_zero, List.set_cons_succ, List.getElem_toArray, List.getElem_cons_zero, List.getElem_cons_succ]
            refine' wpAnyH_take (i := 39) (oi := _) (v := _) rfl (by kernel_rfl) (by kernel_rfl) (by kernel_rfl) (fun _ _ _ h => h) (Or.inl ⟨by rfl, ?hz40⟩) (by assumption) ?rezt40
            case hz40 => (intro w' hSw; (try dsimp only at hSw); go_simp; try with_reducible rfl)
            try simp only [Act.put, List.setIfInBounds_toArray, List.set_cons_zero, List.set_cons_succ, List.getElem_toArray, List.getElem_cons_zero, List.getElem_cons_succ]
            refine' wpAnyH_take (i := 40) (oi := _) (v := _) rfl (by kernel_rfl) (by kernel_rfl) (by kernel_rfl) (fun _ _ _ h => h) (Or.inl ⟨by rfl, ?hz41⟩) (by assumption) ?rezt41
            case hz41 => (intro w' hSw; (try dsimp only at hSw); go_simp; try with_reducible rfl)
            try simp only [Act.put, List.setIfInBounds_toArray, List.set_cons_zero, List.set_cons_succ, List.getElem_toArray, List.getElem_cons_zero, List.getElem_cons_succ]
            refine' wpAnyH_take (i := 41) (oi := _) (v := _) rfl (by kernel_rfl) (by kernel_rfl) (by kernel_rfl) (fun _ _ _ h => h) (Or.inl ⟨by rfl, ?hz42⟩) (by assumption) ?rezt42
            case hz42 => (intro w' hSw; (try dsimp only at hSw); go_simp; try with_reducible rfl)
            try simp only [Act.put, List.setIfInBounds_toArray, List.set_cons_zero, List.set_cons_succ, List.getElem_toArray, List.getElem_cons_zero, List.getElem_cons_succ]
            refine' wpAnyH_take (i := 42) (oi := _) (v := _) rfl (by kernel_rfl) (by kernel_rfl) (by kernel_rfl) (fun _ _ _ h => h) (Or.inl ⟨by rfl, ?hz43⟩) (by assumption) ?rezt43
            case hz43 => (intro w' hSw; (try dsimp only at hSw); go_simp; try with_reducible rfl)
            try simp only [Act.put, List.setIfInBounds_toArray, List.set_cons_zero, List.set_cons_succ, List.getElem_toArray, List.getElem_cons_zero, List.getElem_cons_succ]
            refine' wpAnyH_take (i := 43) (oi := _) (v := _) rfl (by kernel_rfl) (by kernel_rfl) (by kernel_rfl) (fun _ _ _ h => h) (Or.inl ⟨by rfl, ?hz44⟩) (by assumption) ?rezt44
            case hz44 => (intro w' hSw; (try dsimp only at hSw); go_simp; try with_reducible rfl)
            try simp only [Act.put, List.setIfInBounds_toArray, List.set_cons_zero, List.set_cons_succ, List.getElem_toArray, List.getElem_cons_zero, List.getElem_cons_succ]
            refine' wpAnyH_take (i := 44) (oi := _) (v := _) rfl (by kernel_rfl) (by kernel_rfl) (by kernel_rfl) (fun _ _ _ h => h) (Or.inl ⟨by rfl, ?hz45⟩) (by assumption) ?rezt45
            case hz45 => (intro w' hSw; (try dsimp only at hSw); go_simp; try with_reducible rfl)
            try simp only [Act.put, List.setIfInBounds_toArray, List.set_cons_zero, List.set_cons_succ, List.getElem_toArray, List.getElem_cons_zero, List.getElem_cons_succ]
            refine' wpAnyH_take (i := 45) (oi := _) (v := _) rfl (by kernel_rfl) (by kernel_rfl) (by kernel_rfl) (fun _ _ _ h => h) (Or.inl ⟨by rfl, ?hz46⟩) (by assumption) ?rezt46
            case hz46 => (intro w' hSw; (try dsimp only at hSw); go_simp; try with_reducible rfl)
            try simp only [Act.put, List.setIfInBounds_toArray, List.set_cons_zero, List.set_cons_succ, List.getElem_toArray, List.getElem_cons_zero, List.getElem_cons_succ]
            refine wpAnyH_ready (rs := [46]) (by kernel_rfl) (by simp) ?_
            refine AllReadyH.cons (o := _) rfl (fun K hK => ?_) AllReadyH.nil
            go_simp
            refine (seal_any _ A2 s c2 pg HPL.out HR3.out r4 HSB.out (HRQ.out.keep (Below.refl _ W7).drew) HPI.out).mono ?_
            rintro e w8 ⟨A8, n8, c8, rfl, hown8, hb8⟩
            obtain rfl : s + 4 = n8 := by rw [← hown8.len]; simp [HPL.out]
            have HO8 := Lib.hid (show OwnB w8 _ A8 (s + 4) c8 (sealL pg) from hown8)
            have hb78 : Below W7.heap.size W7 w8 := (Below.refl _ W7).drew.trans hb8
            clear hown8 hb8
            refine hK.out _ _ ?_ (fun hHeld => ?_)
            · exact hb78
            clear hK K
            try simp only [Act.put, List.setIfInBounds_toArray, List.set_cons_zero, List.set_cons_succ, List.getElem_toArray, List.getElem_cons_zero, List.getElem_cons_succ]
            refine wpAnyH_ready (rs := [47]) (by kernel_rfl) (by simp) ?_
            refine AllReadyH.cons (o := _) rfl (fun K hK => ?_) AllReadyH.nil
            go_simp
            refine (sealed_any _ A8 s c8 (sealL pg) HO8.out.len HO8.out.cap.1 HO8.out.cap.2 HO8.out.rd (sealL_isB HPI.out)).mono ?_
            rintro e w9 ⟨rfl, hb9⟩
            rw [HSL.out]
            have hb79 : Below W7.heap.size W7 w9 := hb78.trans (hb9.mono hb78.size)
            refine hK.out _ _ ?_ (fun hHeld => ?_)
            · exact hb79
            clear hK K
            try simp only [Act.put, List.setIfInBounds_toArray, List.set_cons_zero, List.set_cons_succ, List.getElem_toArray, List.getElem_cons_zero, List.getElem_cons_succ]
            refine' wpAnyH_take (i := 48) (oi := _) (v := _) rfl (by kernel_rfl) (by kernel_rfl) (by kernel_rfl) (fun _ _ _ h => h) (Or.inl ⟨by rfl, ?hz47⟩) (by assumption) ?rezt47
            case hz47 => (intro w' hSw; (try dsimp only at hSw); go_simp; try with_reducible rfl)
            try simp only [Act.put, List.setIfInBounds_toArray, List.set_cons_zero, List.set_cons_succ, List.getElem_toArray, List.getElem_cons_zero, List.getElem_cons_succ]
            refine' wpAnyH_take (i := 49) (oi := _) (v := _) rfl (by kernel_rfl) (by kernel_rfl) (by kernel_rfl) (fun _ _ _ h => h) (Or.inl ⟨by rfl, ?hz48⟩) (by assumption) ?rezt48
            case hz48 => (intro w' hSw; (try dsimp only at hSw); go_simp; try with_reducible rfl)
            try simp only [Act.put, List.setIfInBounds_toArray, List.set_cons_zero, List.set_cons_succ, List.getElem_toArray, List.getElem_cons_zero, List.getElem_cons_succ]
            refine wpAnyH_done (by kernel_rfl) ?_ _
            have HE := Lib.hid (HB7.out.trans (hb79.mono HB7.out.size))
            clear KC KL KP0 KP2 KQ0 KQ2 hstr1 hstr2
            go_wp2_with fail
            go_roundw
            case rel => exact ⟨i2 + 1, hlt2, by go_num, HE.out⟩
            case measure => simp [intOf]; omega
          · obtain rfl : i2 = kk := by omega
            have HF := Lib.hid (HQ5.out.keep HBX.out)
            have HE := Lib.hid (HB5.out.trans (HBX.out.mono HB5.out.size))
            have hlk' : ¬ (i2 : Int) < (i2 : Int) := by omega
            go_wp2_with fail
            refine (wlatest_ok _ Q i2 dq (wFs s l i2) (wFs_len _ _ _) hlk.1 HF.out (fun j hj => by
              rw [wFs_at hj]
              refine ⟨rfl, rfl, ?_⟩
              simp only [wF]
              rw [pageL_length (by omega)]
              omega) _ rfl).mono ?_
            rintro e w7 ⟨B7, d7, rfl, hb7⟩
            have HEE := Lib.hid (HE.out.trans (hb7.mono HE.out.size))
            clear hb7
            go_wp2_with fail
            first | go_ret | skip
            exact ⟨rfl, HEE.out⟩
      · have heq : ((kk : Int) == (i : Int)) = false := by rw [beq_eq_false_iff_ne]; omega
        have hle1 : kk * (s + 8) + pt0 ≤ i * (s + 8) := cut_le (by omega) (by omega) (fun e => absurd e hkq)
        have hle2 : kk * (s + 16) + pt0 ≤ i * (s + 16) := cut_le (by omega) (by omega) (fun e => absurd e hkq)
        have hup1 : i * (s + 8) ≤ 12 * 1032 := Nat.mul_le_mul hq12 (by omega)
        have hup2 : i * (s + 16) ≤ 12 * 1040 := Nat.mul_le_mul hq12 (by omega)
        have HC1 := Lib.hid (jour_cut2 HS.out HK.out l hq12 (show kk ≤ i by omega) (show pt0 < s + 8 by omega))
        obtain ⟨t, ht⟩ := wlog_cut HS.out HK.out l hq12 (show kk ≤ i by omega) (show pt0 < s + 16 by omega)
        obtain ⟨J, hJ⟩ : ∃ J, kk * (s + 8) = J := ⟨_, rfl⟩
        obtain ⟨V, hV⟩ : ∃ V, kk * (s + 16) = V := ⟨_, rfl⟩
        have eJ : (kk : Int) * ((s : Int) + 8) = (J : Int) := by rw [← hJ]; simp
        have eV : (kk : Int) * ((s : Int) + 16) = (V : Int) := by rw [← hV]; simp
        rw [hJ] at hle1 HC1
        rw [hV] at hle2 ht
        have h1na := HJL.out
        have h2nb := HWL.out
        obtain ⟨X1, hX1⟩ : ∃ X, 28 + (J + pt0) = X := ⟨_, rfl⟩
        obtain ⟨X2, hX2⟩ : ∃ X, 20 + V + pt0 = X := ⟨_, rfl⟩
        rw [hX1] at HC1
        rw [hX2] at ht
        have hc1 : (X1 : Int) = 28 + (J : Int) + (pt0 : Int) := by omega
        have hc2 : (X2 : Int) = 20 + (V : Int) + (pt0 : Int) := by omega
        have hjc := HJ.out.cap
        have hwc := HW.out.cap
        have hjm := HJ.out.most
        have hwm := HW.out.most
        unfold maxLen at hjm hwm
        have hx1 : X1 ≤ da := by omega
        have hx2 : X2 ≤ db := by omega
        have hsl1 := run_cutB_to Ba na da X1 hx1
        have hsl2 := run_cutB_to Bb nb db X2 hx2
        rw [hc1] at hsl1
        rw [hc2] at hsl2
        have HL1 := Lib.hid (show ((jourL s 1 k (jFs s l i)).take X1).length = X1 by rw [List.length_take, HJ.out.len]; omega)
        have HL2 := Lib.hid (show ((wlog s k (wFs s l i)).take X2).length = X2 by rw [List.length_take, HW.out.len]; omega)
        have HI1 := Lib.hid (show IsB ((jourL s 1 k (jFs s l i)).take X1) from isB_take (jour_isB (jFs_ok (by omega) hq12)) X1)
        have HI2 := Lib.hid (show IsB ((wlog s k (wFs s l i)).take X2) from isB_take (wlog_isB (fun f hf => (wFs_ok (l := l) (by omega) hq12 f hf).2.2.2.2.2)) X2)
        have HT := Lib.hid ht
        have HX1 := Lib.hid (show X1 ≤ da ∧ X1 ≤ 900000000000 by omega)
        have HX2 := Lib.hid (show X2 ≤ db ∧ X2 ≤ 1000000 by omega)
        have HVV := Lib.hid hV
        have bJ : -9223372036854775808 ≤ (J : Int) ∧ (J : Int) ≤ 9223372036854775807 := by omega
        have bV : -9223372036854775808 ≤ (V : Int) ∧ (V : Int) ≤ 9223372036854775807 := by omega
        have bJ2 : -9223372036854775808 ≤ 28 + (J : Int) ∧ 28 + (J : Int) ≤ 9223372036854775807 := by omega
        have bV2 : -9223372036854775808 ≤ 20 + (V : Int) ∧ 20 + (V : Int) ≤ 9223372036854775807 := by omega
        have bJ3 : -9223372036854775808 ≤ 28 + (J : Int) + (pt0 : Int) ∧ 28 + (J : Int) + (pt0 : Int) ≤ 9223372036854775807 := by omega
        have bV3 : -9223372036854775808 ≤ 20 + (V : Int) + (pt0 : Int) ∧ 20 + (V : Int) + (pt0 : Int) ≤ 9223372036854775807 := by omega
        have bs8 : -9223372036854775808 ≤ (s : Int) + 8 ∧ (s : Int) + 8 ≤ 9223372036854775807 := by omega
        have bs16 : -9223372036854775808 ≤ (s : Int) + 16 ∧ (s : Int) + 16 ≤ 9223372036854775807 := by omega
        have hlk : kk ≤ 12 ∧ kk ≤ i := by omega
        have hws8 : IntKind.i64.wrap ((s : Int) + 8) = (s : Int) + 8 := IntWalk.i64_in _ bs8
        have hws16 : IntKind.i64.wrap ((s : Int) + 16) = (s : Int) + 16 := IntWalk.i64_in _ bs16
        have hmul1 : IntKind.i64.wrap ((kk : Int) * ((s : Int) + 8)) = (J : Int) := by rw [eJ]; exact IntWalk.i64_in _ bJ
        have hmul2 : IntKind.i64.wrap ((kk : Int) * ((s : Int) + 16)) = (V : Int) := by rw [eV]; exact IntWalk.i64_in _ bV
        have ha1 : IntKind.i64.wrap (28 + (J : Int)) = 28 + (J : Int) := IntWalk.i64_in _ bJ2
        have ha2 : IntKind.i64.wrap (20 + (V : Int)) = 20 + (V : Int) := IntWalk.i64_in _ bV2
        have hb1 : IntKind.i64.wrap (28 + (J : Int) + (pt0 : Int)) = 28 + (J : Int) + (pt0 : Int) := IntWalk.i64_in _ bJ3
        have hb2 : IntKind.i64.wrap (20 + (V : Int) + (pt0 : Int)) = 20 + (V : Int) + (pt0 : Int) := IntWalk.i64_in _ bV3
        clear bJ bV bJ2 bV2 bJ3 bV3 bs8 bs16
        clear hkq hle1 hle2 hup1 hup2 hJ hV eJ eV h1na h2nb hX1 hX2 hjc hwc hjm hwm ht hc1 hc2 hx1 hx2
        go_upto_region 24 with fail
        clear heq
        go_wp2_with fail
        refine (scan_any _ Ba X1 da _ HL1.out HX1.out.1 HJ.out.most (rd_take HJ.out.rd X1) HI1.out HX1.out.2).mono ?_
        rintro e w4 ⟨P, m4, c4, rfl, hm4, _, hrdp, hb4⟩
        rw [HC1.out] at hm4 hrdp ⊢
        obtain rfl : kk = m4 := by rw [← hm4]; exact (jFs_len s l kk).symm
        have HP4 := Lib.hid hrdp
        have HW4 := Lib.hid (HW.out.keep hb4)
        have HB4 := Lib.hid (HBW.out.trans (hb4.mono HBW.out.size))
        clear hm4 hrdp hb4 HJ
        go_wp2_with fail
        refine (wscan_ok _ Bb X2 db s k (wFs s l kk) _ t HT.out HL2.out HX2.out.1 HW4.out.most (rd_take HW4.out.rd X2) HI2.out HX2.out.2 _ rfl).mono ?_
        rintro e w5 ⟨Q, dq, rfl, hq1, hq2, hrdq, hb5⟩
        have HP5 := Lib.hid (HP4.out.keep hb5)
        have HQ5 := Lib.hid hrdq
        have HB5 := Lib.hid (HB4.out.trans (hb5.mono HB4.out.size))
        have he5 : (((20 + (wFs s l kk).length * (s + 16) : Nat) : Nat) : Int) = 20 + (V : Int) := by rw [wFs_len, HVV.out]; simp
        rw [he5, wFs_len]
        rw [wFs_len] at hq1
        clear he5 hrdq hb5 HW4 HP4 HB4 HW
        go_upto_region 28 with fail
        clear hmul1 hmul2 ha1 ha2 hsl1 hsl2 hws8 hws16 hb1 hb2 HJL HWL HC1 HL1 HL2 HI1 HI2 HT HX1 HX2 HVV HAP hna hnb hk1 hp1
        go_wp2_with fail
        go_loopw [224] (fun v224 wx => ∃ i2 : Nat, i2 ≤ kk ∧ v224 = .int .i64 (i2 : Int) ∧ Below w5.heap.size w5 wx) (fun v224 _ => kk - (intOf v224).toNat)
        case atStart => exact ⟨0, Nat.zero_le _, rfl, Below.refl _ _⟩
        case round =>
          rename World => wx
          obtain ⟨i2, hi2, rfl, hbx⟩ := hrel
          have HBX := Lib.hid hbx
          clear hbx
          by_cases hlt2 : i2 < kk
          · obtain ⟨b1, o1, hAe, hbl, hcell⟩ := (HA.out.keep (HB5.out.trans (HBX.out.mono HB5.out.size))).at (by rw [HN.out]; omega)
            subst hAe
            have hci := hcell i2 (by rw [HN.out]; omega)
            obtain ⟨pb, po, hpe, hpc⟩ := (HP5.out.keep HBX.out).at (by rw [jFs_len]; omega)
            obtain ⟨qb, qo, hqe, hqc⟩ := (HQ5.out.keep HBX.out).at (by rw [wFs_len]; omega)
            subst hpe
            subst hqe
            obtain ⟨A1, c1, p0, p1, p2, p3, p4, p5⟩ := hpc i2 (by rw [jFs_len]; exact hlt2)
            obtain ⟨A2, c2, r0, r1, r2, r3, r4, r5⟩ := hqc i2 (by rw [wFs_len]; exact hlt2)
            rw [jFs_at hlt2] at p0 p2 p3 p5
            rw [wFs_at hlt2] at r0 r2 r3 r5
            simp only [jF] at p0 p2 p3 p5
            simp only [wF] at r0 r2 r3 r5
            obtain ⟨z, hz⟩ : ∃ z, bt l i2 = z := ⟨_, rfl⟩
            have hzb : 0 ≤ z ∧ z ≤ 255 := by rw [← hz]; exact HB.out.bt i2
            rw [hz] at hci p2 p3 p5 r2 r3 r5
            obtain ⟨pg, hpg⟩ : ∃ x, pageL s z i2 = x := ⟨_, rfl⟩
            have hpl : pg.length = s := by rw [← hpg]; exact pageL_length (by omega) _ _
            have HPI := Lib.hid (show IsB pg by rw [← hpg]; exact pageL_isB (by omega))
            obtain ⟨hd1, hd2, hd3⟩ := page_dec i2 HS.out hzb
            rw [hpg] at hd1 hd2 hd3 p2 p3 p5 r2 r3 r5
            rw [hpl] at p2 p3 r2 r3
            have HPL := Lib.hid hpl
            have HD1 := Lib.hid hd1
            have HD2 := Lib.hid hd2
            have HD3 := Lib.hid hd3
            have HP3 := Lib.hid p3
            have HR3 := Lib.hid r3
            have HP5' := Lib.hid p5
            have HR5 := Lib.hid r5
            have HSL := Lib.hid (seal_is pg)
            rw [hpl] at HSL
            have hwz : IntKind.i64.wrap z = z := IntWalk.i64_in _ (by omega)
            have hw2 : IntKind.i64.wrap ((i2 : Int) + 1) = (i2 : Int) + 1 := IntWalk.i64_in _ (by omega)
            have hltk : (i2 : Int) < (kk : Int) := by omega
            have hlti : (i2 : Int) < (i : Int) := by omega
            have i200 : (0 : Int) ≤ (i2 : Int) := by omega
            have HS64 := Lib.hid (show 64 ≤ s by omega)
            have HSB := Lib.hid (show s ≤ 140737488351232 by omega)
            clear hcell hpc hqc hz hzb hpg hpl hd1 hd2 hd3 p1 p3 p5 r1 r3 r5 hbl
            go_wp2_with fail
            refine (decode_good _ A1 s c1 pg HPL.out HP3.out p4 HP5'.out HPI.out HS64.out HD2.out HD3.out _ rfl).mono ?_
            rintro e w6 ⟨rfl, hb6⟩
            rw [HD1.out]
            simp only [hdF, Hd.val]
            go_upto_region 32 with fail
            obtain ⟨W7, hW7⟩ : ∃ W, W = w6.alloc (.cells #[.int .i64 (s : Int), .int .i64 1, .int .i64 0, .int .i64 0, .int .i64 z, .int .i64 0] 23) := ⟨_, rfl⟩
            have hb67 : Below w6.heap.size w6 W7 := by rw [hW7]; exact (Below.refl _ _).alloc (Nat.le_refl _) _
            have hbx7 := hb6.trans (hb67.mono hb6.size)
            have k4 : W7.cell? ⟨w6.heap.size, 4, none⟩ = some (.int .i64 z) := by rw [hW7]; simp [go_sem]
            rw [← hW7]
            clear hW7
            have KC : ∀ W : World, Below W7.heap.size W7 W → W.cell? ⟨w6.heap.size, 4, none⟩ = some (.int .i64 z) := fun W hW => (hW.cell (World.block_lt_of_cell? _ _ k4)).trans k4
            have hkeep : ∀ {a : Addr} {v : Value}, wx.cell? a = some v → ∀ W : World, Below W7.heap.size W7 W → W.cell? a = some v := fun {a v} h W hW => by
              have h7 := (hbx7.cell (World.block_lt_of_cell? _ _ h)).trans h
              exact (hW.cell (World.block_lt_of_cell? _ _ h7)).trans h7
            have KL := hkeep hci
            have KP0 := hkeep p0
            have KP2 := hkeep p2
            have KQ0 := hkeep r0
            have KQ2 := hkeep r2
            have HRP := Lib.hid (HP5'.out.keep hbx7)
            have HRQ := Lib.hid (HR5.out.keep hbx7)
            have hstr1 : ∀ W : World, Below W7.heap.size W7 W → (convert 24 9 (.slice A1 s c1)).run Try.prog W = .ok (.string (strOfNums pg)) W := fun W hW => run_str W A1 s c1 pg HPL.out (HRP.out.keep hW)
            have hstr2 : ∀ W : World, Below W7.heap.size W7 W → (convert 24 9 (.slice A2 s c2)).run Try.prog W = .ok (.string (strOfNums pg)) W := fun W hW => run_str W A2 s c2 pg HPL.out (HRQ.out.keep hW)
            have HB7 := Lib.hid (HBX.out.trans (hbx7.mono HBX.out.size))
            obtain ⟨g7, hg7⟩ : ∃ g, w6.heap.size = g := ⟨_, rfl⟩
            rw [hg7] at KC ⊢
            clear hci p0 p2 r0 r2 k4 hkeep hb67 hbx7 hb6 hg7
            refine wp_region_held_drew (S := (fun W => Below W7.heap.size W7 W)) (by kernel_rfl) ?_ (fun hHeld => ?_)
            · exact (Below.refl _ W7).drew
            refine' wpAnyH_take (i := 0) (oi := _) (v := _) rfl (by kernel_rfl) (by kernel_rfl) (by kernel_rfl) (fun _ _ _ h => h) (Or.inl ⟨by rfl, ?hz49⟩) (by assumption) ?rezt49
            case hz49 => (intro w' hSw; (try dsimp only at hSw); go_simp; try with_reducible rfl)
            try simp only [Act.put, List.setIfInBounds_toArray, List.set_cons_zero, List.set_cons_succ, List.getElem_toArray, List.getElem_cons_zero, List.getElem_cons_succ]
            refine' wpAnyH_take (i := 1) (oi := _) (v := _) rfl (by kernel_rfl) (by kernel_rfl) (by kernel_rfl) (fun _ _ _ h => h) (Or.inl ⟨by rfl, ?hz50⟩) (by assumption) ?rezt50
            case hz50 => (intro w' hSw; (try dsimp only at hSw); go_simp; try with_reducible rfl)
            try simp only [Act.put, List.setIfInBounds_toArray, List.set_cons_zero, List.set_cons_succ, List.getElem_toArray, List.getElem_cons_zero, List.getElem_cons_succ]
            refine' wpAnyH_take (i := 2) (oi := _) (v := _) rfl (by kernel_rfl) (by kernel_rfl) (by kernel_rfl) (fun _ _ _ h => h) (Or.inl ⟨by rfl, ?hz51⟩) (by assumption) ?rezt51
            case hz51 => (intro w' hSw; (try dsimp only at hSw); go_simp; try with_reducible rfl)
            try simp only [Act.put, List.setIfInBounds_toArray, List.set_cons_zero, List.set_cons_succ, List.getElem_toArray, List.getElem_cons_zero, List.getElem_cons_succ]
            refine' wpAnyH_take (i := 3) (oi := _) (v := _) rfl (by kernel_rfl) (by kernel_rfl) (by kernel_rfl) (fun _ _ _ h => h) (Or.inl ⟨by rfl, ?hz52⟩) (by assumption) ?rezt52
            case hz52 => (intro w' hSw; (try dsimp only at hSw); go_simp; try with_reducible rfl)
            try simp only [Act.put, List.setIfInBounds_toArray, List.set_cons_zero, List.set_cons_succ, List.getElem_toArray, List.getElem_cons_zero, List.getElem_cons_succ]
            refine' wpAnyH_take (i := 4) (oi := _) (v := _) rfl (by kernel_rfl) (by kernel_rfl) (by kernel_rfl) (fun _ _ _ h => h) (Or.inl ⟨by rfl, ?hz53⟩) (by assumption) ?rezt53
            case hz53 => (intro w' hSw; (try dsimp only at hSw); go_simp; try with_reducible rfl)
            try simp only [Act.put, List.setIfInBounds_toArray, List.set_cons_zero, List.set_cons_succ, List.getElem_toArray, List.getElem_cons_zero, List.getElem_cons_succ]
            refine' wpAnyH_take (i := 5) (oi := _) (v := _) rfl (by kernel_rfl) (by kernel_rfl) (by kernel_rfl) (fun _ _ _ h => h) (Or.inl ⟨by rfl, ?hz54⟩) (by assumption) ?rezt54
            case hz54 => (intro w' hSw; (try dsimp only at hSw); go_simp; try with_reducible rfl)
            try simp only [Act.put, List.setIfInBounds_toArray, List.set_cons_zero, List.set_cons_succ, List.getElem_toArray, List.getElem_cons_zero, List.getElem_cons_succ]
            refine' wpAnyH_take (i := 6) (oi := _) (v := _) rfl (by kernel_rfl) (by kernel_rfl) (by kernel_rfl) (fun _ _ _ h => h) (Or.inl ⟨by rfl, ?hz55⟩) (by assumption) ?rezt55
            case hz55 => (intro w' hSw; (try dsimp only at hSw); go_simp; try with_reducible rfl)
            try simp only [Act.put, List.setIfInBounds_toArray, List.set_cons_zero, List.set_cons_succ, List.getElem_toArray, List.getElem_cons_zero, List.getElem_cons_succ]
            refine' wpAnyH_take (i := 7) (oi := _) (v := _) rfl (by kernel_rfl) (by kernel_rfl) (by kernel_rfl) (fun _ _ _ h => h) (Or.inl ⟨by rfl, ?hz56⟩) (by assumption) ?rezt56
            case hz56 => (intro w' hSw; (try dsimp only at hSw); go_simp; try with_reducible rfl)
            try simp only [Act.put, List.setIfInBounds_toArray, List.set_cons_zero, List.set_cons_succ, List.getElem_toArray, List.getElem_cons_zero, List.getElem_cons_succ]
            refine' wpAnyH_take (i := 8) (oi := _) (v := _) rfl (by kernel_rfl) (by kernel_rfl) (by kernel_rfl) (fun _ _ _ h => h) (Or.inl ⟨by rfl, ?hz57⟩) (by assumption) ?rezt57
            case hz57 => (intro w' hSw; (try dsimp only at hSw); go_simp; try with_reducible rfl)
            try simp only [Act.put, List.setIfInBounds_toArray, List.set_cons_zero, List.set_cons_succ, List.getElem_toArray, List.getElem_cons_zero, List.getElem_cons_succ]
            refine' wpAnyH_take (i := 9) (oi := _) (v := _) rfl (by kernel_rfl) (by kernel_rfl) (by kernel_rfl) (fun _ _ _ h => h) (Or.inl ⟨by rfl, ?hz58⟩) (by assumption) ?rezt58
            case hz58 => (intro w' hSw; (try dsimp only at hSw); go_simp; try with_reducible rfl)
            try simp only [Act.put, List.setIfInBounds_toArray, List.set_cons_zero, List.set_cons_succ, List.getElem_toArray, List.getElem_cons_zero, List.getElem_cons_succ]
            refine' wpAnyH_take (i := 10) (oi := _) (v := _) rfl (by kernel_rfl) (by kernel_rfl) (by kernel_rfl) (fun _ _ _ h => h) (Or.inl ⟨by rfl, ?hz59⟩) (by assumption) ?rezt59
            case hz59 => (intro w' hSw; (try dsimp only at hSw); go_simp; try with_reducible rfl)
            try simp only [Act.put, List.setIfInBounds_toArray, List.set_cons_zero, List.set_cons_succ, List.getElem_toArray, List.getElem_cons_zero, List.getElem_cons_succ]
            refine' wpAnyH_take (i := 11) (oi := _) (v := _) rfl (by kernel_rfl) (by kernel_rfl) (by kernel_rfl) (fun _ _ _ h => h) (Or.inl ⟨by rfl, ?hz60⟩) (by assumption) ?rezt60
            case hz60 => (intro w' hSw; (try dsimp only at hSw); go_simp; try with_reducible rfl)
            try simp only [Act.put, List.setIfInBounds_toArray, List.set_cons_zero, List.set_cons_succ, List.getElem_toArray, List.getElem_cons_zero, List.getElem_cons_succ]
            refine' wpAnyH_take (i := 12) (oi := _) (v := _) rfl (by kernel_rfl) (by kernel_rfl) (by kernel_rfl) (fun _ _ _ h => h) (Or.inl ⟨by rfl, ?hz61⟩) (by assumption) ?rezt61
            case hz61 => (intro w' hSw; (try dsimp only at hSw); go_simp; try with_reducible rfl)
            try simp only [Act.put, List.setIfInBounds_toArray, List.set_cons_zero, List.set_cons_succ, List.getElem_toArray, List.getElem_cons_zero, List.getElem_cons_succ]
            refine' wpAnyH_take (i := 13) (oi := _) (v := _) rfl (by kernel_rfl) (by kernel_rfl) (by kernel_rfl) (fun _ _ _ h => h) (Or.inl ⟨by rfl, ?hz62⟩) (by assumption) ?rezt62
            case hz62 => (intro w' hSw; (try dsimp only at hSw); go_simp; try with_reducible rfl)
            try simp only [Act.put, List.setIfInBounds_toArray, List.set_cons_zero, List.set_cons_succ, List.getElem_toArray, List.getElem_cons_zero, List.getElem_cons_succ]
            refine' wpAnyH_take (i := 14) (oi := _) (v := _) rfl (by kernel_rfl) (by kernel_rfl) (by kernel_rfl) (fun _ _ _ h => h) (Or.inl ⟨by rfl, ?hz63⟩) (by assumption) ?rezt63
            case hz63 => (intro w' hSw; (try dsimp only at hSw); go_simp; try with_reducible rfl)
            try simp only [Act.put, List.setIfInBounds_toArray, List.set_cons_zero, List.set_cons_succ, List.getElem_toArray, List.getElem_cons_zero, List.getElem_cons_succ]
            refine' wpAnyH_take (i := 15) (oi := _) (v := _) rfl (by kernel_rfl) (by kernel_rfl) (by kernel_rfl) (fun _ _ _ h => h) (Or.inl ⟨by rfl, ?hz64⟩) (by assumption) ?rezt64
            case hz64 => (intro w' hSw; (try dsimp only at hSw); go_simp; try with_reducible rfl)
            try simp only [Act.put, List.setIfInBounds_toArray, List.set_cons_zero, List.set_cons_succ, List.getElem_toArray, List.getElem_cons_zero, List.getElem_cons_succ]
            refine' wpAnyH_take (i := 16) (oi := _) (v := _) rfl (by kernel_rfl) (by kernel_rfl) (by kernel_rfl) (fun _ _ _ h => h) (Or.inl ⟨by rfl, ?hz65⟩) (by assumption) ?rezt65
            case hz65 => (intro w' hSw; (try dsimp only at hSw); go_simp; try with_reducible rfl)
            try simp only [Act.put, List.setIfInBounds_toArray, List.set_cons_zero, List.set_cons_succ, List.getElem_toArray, List.getElem_cons_zero, List.getElem_cons_succ]
            refine' wpAnyH_take (i := 17) (oi := _) (v := _) rfl (by kernel_rfl) (by kernel_rfl) (by kernel_rfl) (fun _ _ _ h => h) (Or.inl ⟨by rfl, ?hz66⟩) (by assumption) ?rezt66
            case hz66 => (intro w' hSw; (try dsimp only at hSw); go_simp; try with_reducible rfl)
            try simp only [Act.put, List.setIfInBounds_toArray, List.set_cons_zero, List.set_cons_succ, List.getElem_toArray, List.getElem_cons_zero, List.getElem_cons_succ]
            refine' wpAnyH_take (i := 18) (oi := _) (v := _) rfl (by kernel_rfl) (by kernel_rfl) (by kernel_rfl) (fun _ _ _ h => h) (Or.inl ⟨by rfl, ?hz67⟩) (by assumption) ?rezt67
            case hz67 => (intro w' hSw; (try dsimp only at hSw); go_simp; try with_reducible rfl)
            try simp only [Act.put, List.setIfInBounds_toArray, List.set_cons_zero, List.set_cons_succ, List.getElem_toArray, List.getElem_cons_zero, List.getElem_cons_succ]
            refine' wpAnyH_take (i := 19) (oi := _) (v := _) rfl (by kernel_rfl) (by kernel_rfl) (by kernel_rfl) (fun _ _ _ h => h) (Or.inl ⟨by rfl, ?hz68⟩) (by assumption) ?rezt68
            case hz68 => (intro w' hSw; (try dsimp only at hSw); go_simp; try with_reducible rfl)
            try simp only [Act.put, List.setIfInBounds_toArray, List.set_cons_zero, List.set_cons_succ, List.getElem_toArray, List.getElem_cons_zero, List.getElem_cons_succ]
            refine' wpAnyH_take (i := 20) (oi := _) (v := _) rfl (by kernel_rfl) (by kernel_rfl) (by kernel_rfl) (fun _ _ _ h => h) (Or.inl ⟨by rfl, ?hz69⟩) (by assumption) ?rezt69
            case hz69 => (intro w' hSw; (try dsimp only at hSw); go_simp; try with_reducible rfl)
            try simp only [Act.put, List.setIfInBounds_toArray, List.set_cons_zero, List.set_cons_succ, List.getElem_toArray, List.getElem_cons_zero, List.getElem_cons_succ]
            refine' wpAnyH_take (i := 21) (oi := _) (v := _) rfl (by kernel_rfl) (by kernel_rfl) (by kernel_rfl) (fun _ _ _ h => h) (Or.inl ⟨by rfl, ?hz70⟩) (by assumption) ?rezt70
            case hz70 => (intro w' hSw; (try dsimp only at hSw); go_simp; try with_reducible rfl)
            try simp only [Act.put, List.setIfInBounds_toArray, List.set_cons_zero, List.set_cons_succ, List.getElem_toArray, List.getElem_cons_zero, List.getElem_cons_succ]
            refine' wpAnyH_take (i := 22) (oi := _) (v := _) rfl (by kernel_rfl) (by kernel_rfl) (by kernel_rfl) (fun _ _ _ h => h) (Or.inl ⟨by rfl, ?hz71⟩) (by assumption) ?rezt71
            case hz71 => (intro w' hSw; (try dsimp only at hSw); go_simp; try with_reducible rfl)
            try simp only [Act.put, List.setIfInBounds_toArray, List.set_cons_zero, List.set_cons_succ, List.getElem_toArray, List.getElem_cons_zero, List.getElem_cons_succ]
            refine' wpAnyH_take (i := 23) (oi := _) (v := _) rfl (by kernel_rfl) (by kernel_rfl) (by kernel_rfl) (fun _ _ _ h => h) (Or.inl ⟨by rfl, ?hz72⟩) (by assumption) ?rezt72
            case hz72 => (intro w' hSw; (try dsimp only at hSw); go_simp; try with_reducible rfl)
            try simp only [Act.put, List.setIfInBounds_toArray, List.set_cons_zero, List.set_cons_succ, List.getElem_toArray, List.getElem_cons_zero, List.getElem_cons_succ]
            refine' wpAnyH_take (i := 24) (oi := _) (v := _) rfl (by kernel_rfl) (by kernel_rfl) (by kernel_rfl) (fun _ _ _ h => h) (Or.inl ⟨by rfl, ?hz73⟩) (by assumption) ?rezt73
            case hz73 => (intro w' hSw; (try dsimp only at hSw); go_simp; try with_reducible rfl)
            try simp only [Act.put, List.setIfInBounds_toArray, List.set_cons_zero, List.set_cons_succ, List.getElem_toArray, List.getElem_cons_zero, List.getElem_cons_succ]
            refine' wpAnyH_take (i := 25) (oi := _) (v := _) rfl (by kernel_rfl) (by kernel_rfl) (by kernel_rfl) (fun _ _ _ h => h) (Or.inl ⟨by rfl, ?hz74⟩) (by assumption) ?rezt74
            case hz74 => (intro w' hSw; (try dsimp only at hSw); go_simp; try with_reducible rfl)
            try simp only [Act.put, List.setIfInBounds_toArray, List.set_cons_zero, List.set_cons_succ, List.getElem_toArray, List.getElem_cons_zero, List.getElem_cons_succ]
            refine' wpAnyH_take (i := 26) (oi := _) (v := _) rfl (by kernel_rfl) (by kernel_rfl) (by kernel_rfl) (fun _ _ _ h => h) (Or.inl ⟨by rfl, ?hz75⟩) (by assumption) ?rezt75
            case hz75 => (intro w' hSw; (try dsimp only at hSw); go_simp; try with_reducible rfl)
            try simp only [Act.put, List.setIfInBounds_toArray, List.set_cons_zero, List.set_cons_succ, List.getElem_toArray, List.getElem_cons_zero, List.getElem_cons_succ]
            refine' wpAnyH_take (i := 27) (oi := _) (v := _) rfl (by kernel_rfl) (by kernel_rfl) (by kernel_rfl) (fun _ _ _ h => h) (Or.inl ⟨by rfl, ?hz76⟩) (by assumption) ?rezt76
            case hz76 => (intro w' hSw; (try dsimp only at hSw); go_simp; try with_reducible rfl)
            try simp only [Act.put, List.setIfInBounds_toArray, List.set_cons_zero, List.set_cons_succ, List.getElem_toArray, List.getElem_cons_zero, List.getElem_cons_succ]
            refine' wpAnyH_take (i := 28) (oi := _) (v := _) rfl (by kernel_rfl) (by kernel_rfl) (by kernel_rfl) (fun _ _ _ h => h) (Or.inl ⟨by rfl, ?hz77⟩) (by assumption) ?rezt77
            case hz77 => (intro w' hSw; (try dsimp only at hSw); go_simp; try with_reducible rfl)
            try simp only [Act.put, List.setIfInBounds_toArray, List.set_cons_zero, List.set_cons_succ, List.getElem_toArray, List.getElem_cons_zero, List.getElem_cons_succ]
            refine' wpAnyH_take (i := 29) (oi := _) (v := _) rfl (by kernel_rfl) (by kernel_rfl) (by kernel_rfl) (fun _ _ _ h => h) (Or.inl ⟨by rfl, ?hz78⟩) (by assumption) ?rezt78
            case hz78 => (intro w' hSw; (try dsimp only at hSw); go_simp; try with_reducible rfl)
            try simp only [Act.put, List.setIfInBounds_toArray, List.set_cons_zero, List.set_cons_succ, List.getElem_toArray, List.getElem_cons_zero, List.getElem_cons_succ]
            refine' wpAnyH_take (i := 30) (oi := _) (v := _) rfl (by kernel_rfl) (by kernel_rfl) (by kernel_rfl) (fun _ _ _ h => h) (Or.inl ⟨by rfl, ?hz79⟩) (by assumption) ?rezt79
            case hz79 => (intro w' hSw; (try dsimp only at hSw); go_simp; try with_reducible rfl)
            try simp only [Act.put, List.setIfInBounds_toArray, List.set_cons_zero, List.set_cons_succ, List.getElem_toArray, List.getElem_cons_zero, List.getElem_cons_succ]
            refine' wpAnyH_take (i := 31) (oi := _) (v := _) rfl (by kernel_rfl) (by kernel_rfl) (by kernel_rfl) (fun _ _ _ h => h) (Or.inl ⟨by rfl, ?hz80⟩) (by assumption) ?rezt80
            case hz80 => (intro w' hSw; (try dsimp only at hSw); go_simp; try with_reducible rfl)
            try simp only [Act.put, List.setIfInBounds_toArray, List.set_cons_zero, List.set_cons_succ, List.getElem_toArray, List.getElem_cons_zero, List.getElem_cons_succ]
            refine' wpAnyH_take (i := 32) (oi := _) (v := _) rfl (by kernel_rfl) (by kernel_rfl) (by kernel_rfl) (fun _ _ _ h => h) (Or.inl ⟨by rfl, ?hz81⟩) (by assumption) ?rezt81
            case hz81 => (intro w' hSw; (try dsimp only at hSw); go_simp; try with_reducible rfl)
            try simp only [Act.put, List.setIfInBounds_toArray, List.set_cons_zero, List.set_cons_succ, List.getElem_toArray, List.getElem_cons_zero, List.getElem_cons_succ]
            refine' wpAnyH_take (i := 33) (oi := _) (v := _) rfl (by kernel_rfl) (by kernel_rfl) (by kernel_rfl) (fun _ _ _ h => h) (Or.inl ⟨by rfl, ?hz82⟩) (by assumption) ?rezt82
            case hz82 => (intro w' hSw; (try dsimp only at hSw); go_simp; try with_reducible rfl)
            try simp only [Act.put, List.setIfInBounds_toArray, List.set_cons_zero, List.set_cons_succ, List.getElem_toArray, List.getElem_cons_zero, List.getElem_cons_succ]
            refine' wpAnyH_take (i := 34) (oi := _) (v := _) rfl (by kernel_rfl) (by kernel_rfl) (by kernel_rfl) (fun _ _ _ h => h) (Or.inl ⟨by rfl, ?hz83⟩) (by assumption) ?rezt83
            case hz83 => (intro w' hSw; (try dsimp only at hSw); go_simp; try with_reducible rfl)
            try simp only [Act.put, List.setIfInBounds_toArray, List.set_cons_zero, List.set_cons_succ, List.getElem_toArray, List.getElem_cons_zero, List.getElem_cons_succ]
            refine' wpAnyH_take (i := 35) (oi := _) (v := _) rfl (by kernel_rfl) (by kernel_rfl) (by kernel_rfl) (fun _ _ _ h => h) (Or.inl ⟨by rfl, ?hz84⟩) (by assumption) ?rezt84
            case hz84 => (intro w' hSw; (try dsimp only at hSw); go_simp; try with_reducible rfl)
            try simp only [Act.put, List.setIfInBounds_toArray, List.set_cons_zero, List.set_cons_succ, List.getElem_toArray, List.getElem_cons_zero, List.getElem_cons_succ]
            refine' wpAnyH_take (i := 36) (oi := _) (v := _) rfl (by kernel_rfl) (by kernel_rfl) (by kernel_rfl) (fun _ _ _ h => h) (Or.inl ⟨by rfl, ?hz85⟩) (by assumption) ?rezt85
            case hz85 => (intro w' hSw; (try dsimp only at hSw); go_simp; try with_reducible rfl)
            try simp only [Act.put, List.setIfInBounds_toArray, List.set_cons_zero, List.set_cons_succ, List.getElem_toArray, List.getElem_cons_zero, List.getElem_cons_succ]
            refine' wpAnyH_take (i := 37) (oi := _) (v := _) rfl (by kernel_rfl) (by kernel_rfl) (by kernel_rfl) (fun _ _ _ h => h) (Or.inl ⟨by rfl, ?hz86⟩) (by assumption) ?rezt86
            case hz86 => (intro w' hSw; (try dsimp only at hSw); go_simp; try with_reducible rfl)
            try simp only [Act.put, List.setIfInBounds_toArray, List.set_cons_zero, List.set_cons_succ, List.getElem_toArray, List.getElem_cons_zero, List.getElem_cons_succ]
            refine' wpAnyH_take (i := 38) (oi := _) (v := _) rfl (by kernel_rfl) (by kernel_rfl) (by kernel_rfl) (fun _ _ _ h => h) (Or.inl ⟨by rfl, ?hz87⟩) (by assumption) ?rezt87
            case hz87 => (intro w' hSw; (try dsimp only at hSw); go_simp; try with_reducible rfl)
            try simp only [Act.put, List.setIfInBounds_toArray, List.set_cons_zero, List.set_cons_succ, List.getElem_toArray, List.getElem_cons_zero, List.getElem_cons_succ]
            refine' wpAnyH_take (i := 39) (oi := _) (v := _) rfl (by kernel_rfl) (by kernel_rfl) (by kernel_rfl) (fun _ _ _ h => h) (Or.inl ⟨by rfl, ?hz88⟩) (by assumption) ?rezt88
            case hz88 => (intro w' hSw; (try dsimp only at hSw); go_simp; try with_reducible rfl)
            try simp only [Act.put, List.setIfInBounds_toArray, List.set_cons_zero, List.set_cons_succ, List.getElem_toArray, List.getElem_cons_zero, List.getElem_cons_succ]
            refine' wpAnyH_take (i := 40) (oi := _) (v := _) rfl (by kernel_rfl) (by kernel_rfl) (by kernel_rfl) (fun _ _ _ h => h) (Or.inl ⟨by rfl, ?hz89⟩) (by assumption) ?rezt89
            case hz89 => (intro w' hSw; (try dsimp only at hSw); go_simp; try with_reducible rfl)
            try simp only [Act.put, List.setIfInBounds_toArray, List.set_cons_zero, List.set_cons_succ, List.getElem_toArray, List.getElem_cons_zero, List.getElem_cons_succ]
            refine' wpAnyH_take (i := 41) (oi := _) (v := _) rfl (by kernel_rfl) (by kernel_rfl) (by kernel_rfl) (fun _ _ _ h => h) (Or.inl ⟨by rfl, ?hz90⟩) (by assumption) ?rezt90
            case hz90 => (intro w' hSw; (try dsimp only at hSw); go_simp; try with_reducible rfl)
            try simp only [Act.put, List.setIfInBounds_toArray, List.set_cons_zero, List.set_cons_succ, List.getElem_toArray, List.getElem_cons_zero, List.getElem_cons_succ]
            refine' wpAnyH_take (i := 42) (oi := _) (v := _) rfl (by kernel_rfl) (by kernel_rfl) (by kernel_rfl) (fun _ _ _ h => h) (Or.inl ⟨by rfl, ?hz91⟩) (by assumption) ?rezt91
            case hz91 => (intro w' hSw; (try dsimp only at hSw); go_simp; try with_reducible rfl)
            try simp only [Act.put, List.setIfInBounds_toArray, List.set_cons_zero, List.set_cons_succ, List.getElem_toArray, List.getElem_cons_zero, List.getElem_cons_succ]
            refine' wpAnyH_take (i := 43) (oi := _) (v := _) rfl (by kernel_rfl) (by kernel_rfl) (by kernel_rfl) (fun _ _ _ h => h) (Or.inl ⟨by rfl, ?hz92⟩) (by assumption) ?rezt92
            case hz92 => (intro w' hSw; (try dsimp only at hSw); go_simp; try with_reducible rfl)
            try simp only [Act.put, List.setIfInBounds_toArray, List.set_cons_zero, List.set_cons_succ, List.getElem_toArray, List.getElem_cons_zero, List.getElem_cons_succ]
            refine' wpAnyH_take (i := 44) (oi := _) (v := _) rfl (by kernel_rfl) (by kernel_rfl) (by kernel_rfl) (fun _ _ _ h => h) (Or.inl ⟨by rfl, ?hz93⟩) (by assumption) ?rezt93
            case hz93 => (intro w' hSw; (try dsimp only at hSw); go_simp; try with_reducible rfl)
            try simp only [Act.put, List.setIfInBounds_toArray, List.set_cons_zero, List.set_cons_succ, List.getElem_toArray, List.getElem_cons_zero, List.getElem_cons_succ]
            refine' wpAnyH_take (i := 45) (oi := _) (v := _) rfl (by kernel_rfl) (by kernel_rfl) (by kernel_rfl) (fun _ _ _ h => h) (Or.inl ⟨by rfl, ?hz94⟩) (by assumption) ?rezt94
            case hz94 => (intro w' hSw; (try dsimp only at hSw); go_simp; try with_reducible rfl)
            try simp only [Act.put, List.setIfInBounds_toArray, List.set_cons_zero, List.set_cons_succ, List.getElem_toArray, List.getElem_cons_zero, List.getElem_cons_succ]
            refine wpAnyH_ready (rs := [46]) (by kernel_rfl) (by simp) ?_
            refine AllReadyH.cons (o := _) rfl (fun K hK => ?_) AllReadyH.nil
            go_simp
            refine (seal_any _ A2 s c2 pg HPL.out HR3.out r4 HSB.out (HRQ.out.keep (Below.refl _ W7).drew) HPI.out).mono ?_
            rintro e w8 ⟨A8, n8, c8, rfl, hown8, hb8⟩
            obtain rfl : s + 4 = n8 := by rw [← hown8.len]; simp [HPL.out]
            have HO8 := Lib.hid (show OwnB w8 _ A8 (s + 4) c8 (sealL pg) from hown8)
            have hb78 : Below W7.heap.size W7 w8 := (Below.refl _ W7).drew.trans hb8
            clear hown8 hb8
            refine hK.out _ _ ?_ (fun hHeld => ?_)
            · exact hb78
            clear hK K
            try simp only [Act.put, List.setIfInBounds_toArray, List.set_cons_zero, List.set_cons_succ, List.getElem_toArray, List.getElem_cons_zero, List.getElem_cons_succ]
            refine wpAnyH_ready (rs := [47]) (by kernel_rfl) (by simp) ?_
            refine AllReadyH.cons (o := _) rfl (fun K hK => ?_) AllReadyH.nil
            go_simp
            refine (sealed_any _ A8 s c8 (sealL pg) HO8.out.len HO8.out.cap.1 HO8.out.cap.2 HO8.out.rd (sealL_isB HPI.out)).mono ?_
            rintro e w9 ⟨rfl, hb9⟩
            rw [HSL.out]
            have hb79 : Below W7.heap.size W7 w9 := hb78.trans (hb9.mono hb78.size)
            refine hK.out _ _ ?_ (fun hHeld => ?_)
            · exact hb79
            clear hK K
            try simp only [Act.put, List.setIfInBounds_toArray, List.set_cons_zero, List.set_cons_succ, List.getElem_toArray, List.getElem_cons_zero, List.getElem_cons_succ]
            refine' wpAnyH_take (i := 48) (oi := _) (v := _) rfl (by kernel_rfl) (by kernel_rfl) (by kernel_rfl) (fun _ _ _ h => h) (Or.inl ⟨by rfl, ?hz95⟩) (by assumption) ?rezt95
            case hz95 => (intro w' hSw; (try dsimp only at hSw); go_simp; try with_reducible rfl)
            try simp only [Act.put, List.setIfInBounds_toArray, List.set_cons_zero, List.set_cons_succ, List.getElem_toArray, List.getElem_cons_zero, List.getElem_cons_succ]
            refine' wpAnyH_take (i := 49) (oi := _) (v := _) rfl (by kernel_rfl) (by kernel_rfl) (by kernel_rfl) (fun _ _ _ h => h) (Or.inl ⟨by rfl, ?hz96⟩) (by assumption) ?rezt96
            case hz96 => (intro w' hSw; (try dsimp only at hSw); go_simp; try with_reducible rfl)
            try simp only [Act.put, List.setIfInBounds_toArray, List.set_cons_zero, List.set_cons_succ, List.getElem_toArray, List.getElem_cons_zero, List.getElem_cons_succ]
            refine wpAnyH_done (by kernel_rfl) ?_ _
            have HE := Lib.hid (HB7.out.trans (hb79.mono HB7.out.size))
            clear KC KL KP0 KP2 KQ0 KQ2 hstr1 hstr2
            go_wp2_with fail
            go_roundw
            case rel => exact ⟨i2 + 1, hlt2, by go_num, HE.out⟩
            case measure => simp [intOf]; omega
          · obtain rfl : i2 = kk := by omega
            have HF := Lib.hid (HQ5.out.keep HBX.out)
            have HE := Lib.hid (HB5.out.trans (HBX.out.mono HB5.out.size))
            have hlk' : ¬ (i2 : Int) < (i2 : Int) := by omega
            go_wp2_with fail
            refine (wlatest_ok _ Q i2 dq (wFs s l i2) (wFs_len _ _ _) hlk.1 HF.out (fun j hj => by
              rw [wFs_at hj]
              refine ⟨rfl, rfl, ?_⟩
              simp only [wF]
              rw [pageL_length (by omega)]
              omega) _ rfl).mono ?_
            rintro e w7 ⟨B7, d7, rfl, hb7⟩
            have HEE := Lib.hid (HE.out.trans (hb7.mono HE.out.size))
            clear hb7
            go_wp2_with fail
            first | go_ret | skip
            exact ⟨rfl, HEE.out⟩
end
end Go.Proofs.Ytlehpgokjppccaa
