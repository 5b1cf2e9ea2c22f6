/- Several texts of this proof as one: ClE, ClD. Laid by merge.py. -/
import Derived.Test.YtoeaffmlolapnaaNpA
import Derived.Test.YtoeaffmlolapnaaNpB
import Derived.Test.YtoeaffmlolapnaaNpC
import Derived.Test.YtoeaffmlolapnaaNpD
import Derived.Test.YtoeaffmlolapnaaNpE
import Derived.Test.YtoeaffmlolapnaaNpF
import Derived.ArgAppend
import Derived.BigQuiet
import Derived.Deep.DeepCutAuto
import Derived.Deep.MidRow
import Derived.Deep.QuietTactic
import Derived.Deep.RegionHeld3
import Derived.Handy
import Derived.Laws.Externs
import Derived.Laws.ResultCell
import Derived.Lib.AppendStr
import Derived.Lib.Hide
import Derived.Lib.MakeNoZero
import Derived.Lib.SlBuf
import Derived.Lib.SmallJoins
import Derived.Maps.AppendAt
import Derived.Test.YtoeaffmlolapnaaProg
import Derived.WalkKit
import Derived.WalkSpells
namespace Go.Proofs.Ytoeaffmlolapnaa
section
open Go.RowKit
set_option maxRecDepth 100000
set_option linter.unusedVariables false
set_option linter.unusedSimpArgs false
theorem rvarint_put (w : World) (n : Int) (hn : -9223372036854775808 ≤ n ∧ n ≤ 9223372036854775807) :
    Calls Try.prog 87 #[.int .i64 n] w fun e w' => ∃ A m c, e = .returned (.slice A m c) ∧ OwnB w' w.heap.size A m c (varL n) ∧ Below w.heap.size w w' := by
  refine (rvarint_any w n hn).mono ?_
  rintro e w' ⟨A, m, c, rfl, h1, h2⟩
  exact ⟨A, m, c, rfl, h1, h2⟩

set_option maxHeartbeats 8000000 in
theorem rcenc_no (w : World) (k : Int) (c : Cl) (A : Option Addr) (n d : Nat) (hc : c.ok) (hn : (n : Int) ≤ 9223372036854775807) (hl : c.loc.length = n) (hno : ¬ goodC k c n) (R : Ending → World → Prop) (hR : R = EncOwn w (encC k c) (checkZ k c n)) :
    Calls Try.prog 36 #[.int .i64 k, c.val A n d] w R := by
  have HR := Lib.hid hR; clear hR
  have he : encC k c = [] := if_neg (by rw [hl]; exact hno)
  have hz : checkZ k c n = 1 := if_neg hno
  have HE := Lib.hid he; clear he
  have HZ := Lib.hid hz; clear hz
  obtain ⟨W1, hW1⟩ : ∃ W, W = w.alloc (.cells #[.int .i64 c.key, .int .i64 c.child, .int .i64 c.total, .slice A n d, .int .i64 c.spill] 55) := ⟨_, rfl⟩
  have hbW : Below w.heap.size w W1 := by rw [hW1]; exact (Below.refl _ _).alloc (Nat.le_refl _) _
  have hat : ClAt W1 w.heap.size c A n d := by rw [hW1]; exact ⟨by simp [go_sem], by simp [go_sem], by simp [go_sem], by simp [go_sem], by simp [go_sem]⟩
  have HT := Lib.hid hat; clear hat
  have HW := Lib.hid hW1
  unfold Cl.val
  go_enter Try.func36, Try.ntmps36
  go_upto_region 1 with fail
  rw [← hW1]
  clear hW1 HW
  iterate 4 go_step
  refine wp_load_cl rfl _ rfl w.heap.size c A n d rfl HT.out ?_
  go_wp2_with fail
  refine (rcheckC_any _ k c A n d hc hn).mono ?_
  rintro e w1 ⟨rfl, hb1⟩
  simp only [HZ.out]
  have hB1 : Below w.heap.size w w1 := hbW.trans (hb1.mono hbW.size)
  clear hb1
  go_wp2
  rw [HR.out]
  exact ⟨none, 0, 0, by rw [HZ.out]; rfl, by rw [HE.out]; exact OwnB.nil _ _, hB1⟩

set_option maxHeartbeats 8000000 in
theorem rcenc_one (w : World) (c : Cl) (A : Option Addr) (n d : Nat) (hc : c.ok) (hnd : n ≤ d) (hd : d ≤ maxLen) (hl : c.loc.length = n) (hA : Rd w A c.loc) (hg : goodC 1 c n) (R : Ending → World → Prop) (hR : R = EncOwn w (cellB 1 c) 0) :
    Calls Try.prog 36 #[.int .i64 1, c.val A n d] w R := by
  have HR := Lib.hid hR; clear hR
  have hz : checkZ 1 c n = 0 := if_pos hg
  have HZ := Lib.hid hz; clear hz
  obtain ⟨hc0, hc1, hc2, hc3⟩ := hc
  have HC0 := Lib.hid hc0
  have HC1 := Lib.hid hc1
  have HC2 := Lib.hid hc2
  have HC3 := Lib.hid hc3
  have HL := Lib.hid hl
  have HG := Lib.hid hg
  obtain ⟨W1, hW1⟩ : ∃ W, W = w.alloc (.cells #[.int .i64 c.key, .int .i64 c.child, .int .i64 c.total, .slice A n d, .int .i64 c.spill] 55) := ⟨_, rfl⟩
  have hbW : Below w.heap.size w W1 := by rw [hW1]; exact (Below.refl _ _).alloc (Nat.le_refl _) _
  have hat : ClAt W1 w.heap.size c A n d := by rw [hW1]; exact ⟨by simp [go_sem], by simp [go_sem], by simp [go_sem], by simp [go_sem], by simp [go_sem]⟩
  have HT := Lib.hid hat; clear hat
  have HA := Lib.hid (hA.keep hbW); clear hA
  have HW := Lib.hid hW1
  unfold Cl.val
  go_enter Try.func36, Try.ntmps36
  go_upto_region 1 with fail
  rw [← hW1]
  clear hW1 HW
  iterate 4 go_step
  refine wp_load_cl rfl _ rfl w.heap.size c A n d rfl HT.out ?_
  go_wp2_with fail
  refine (rcheckC_any _ 1 c A n d ⟨hc0, hc1, hc2, hc3⟩ (by unfold maxLen at hd; omega)).mono ?_
  rintro e w1 ⟨rfl, hb1⟩
  simp only [HZ.out]
  have hB1 : Below w.heap.size w w1 := hbW.trans (hb1.mono hbW.size)
  have HTc := Lib.hid (HT.out.keep hb1)
  have HAc := Lib.hid (HA.out.keep hb1)
  have hz1 := hb1.size
  have hbc : Below w1.heap.size w1 w1 := Below.refl _ _
  clear hb1 hc0 hc1 hc2 hc3 hg hl
  obtain ⟨k0, k1, k2, k3, k4⟩ := HTc.out
  have hgl := HG.out.2.2.2.2.1 (by decide)
  obtain ⟨gt0, gt1, gn, gs0, gs1⟩ := hgl
  have hnn : n ≤ 16384 := by omega
  go_wp2_with fail
  refine (rchild_any _ _).mono ?_
  rintro e w0 ⟨rfl, rfl⟩
  simp only [show decide (hasC 1) = false from rfl]
  go_wp2_with fail
  refine (rkeyed_any _ _).mono ?_
  rintro e w0 ⟨rfl, rfl⟩
  simp only [show decide (hasK 1) = true from rfl]
  go_wp2_with fail
  refine (rvarint_put _ c.key HC0.out).mono ?_
  rintro e wya ⟨Ay, my, cy, rfl, howny, hby⟩
  have HVy := Lib.hid howny
  have hmy : my ≤ 10 := by rw [← howny.len]; exact varL_ten HC0.out
  have hcay : Below w1.heap.size w1 wya := hbc.trans (hby.mono hbc.size)
  have hzy := hcay.size
  clear howny
  dsimp only
  go_step
  refine wp_append rfl (.tmp 20) (.tmp 23) rfl w1.heap.size none 0 0 [] rfl (OwnB.nil _ _) Ay my cy (varL c.key) rfl HVy.out.len HVy.out.rd (by omega) (by omega) ?_
  intro Dy dy wyb happy _ hbby
  simp only [List.nil_append, Nat.zero_add] at happy ⊢
  have HPy := Lib.hid happy
  have hcy : Below w1.heap.size w1 wyb := hcay.trans hbby
  have hzzy := hcy.size
  have HTy := Lib.hid (HTc.out.keep hcy)
  have HAy := Lib.hid (HAc.out.keep hcy)
  clear happy hby hbby k0 k1 k2 k3 k4
  obtain ⟨k0, k1, k2, k3, k4⟩ := HTy.out
  go_wp2_with fail
  refine (rpays_any _ _).mono ?_
  rintro e w0 ⟨rfl, rfl⟩
  simp only [show decide ((1 : Int) ≠ 2) = true from rfl]
  go_wp2_with fail
  refine (rvarint_put _ c.total HC2.out).mono ?_
  rintro e wta ⟨At, mt, ct, rfl, hownt, hbt⟩
  have HVt := Lib.hid hownt
  have hmt : mt ≤ 10 := by rw [← hownt.len]; exact varL_ten HC2.out
  have hcat : Below w1.heap.size w1 wta := hcy.trans (hbt.mono hcy.size)
  have hzt := hcat.size
  have HPyt := Lib.hid (HPy.out.keep hbt)
  clear hownt
  dsimp only
  go_step
  refine wp_append rfl (.tmp 27) (.tmp 30) rfl w1.heap.size Dy my dy (varL c.key) rfl HPyt.out At mt ct (varL c.total) rfl HVt.out.len HVt.out.rd (by omega) (by omega) ?_
  intro Dt dt wtb happt _ hbbt
  simp only [List.nil_append, Nat.zero_add] at happt ⊢
  have HPt := Lib.hid happt
  have hct : Below w1.heap.size w1 wtb := hcat.trans hbbt
  have hzzt := hct.size
  have HTt := Lib.hid (HTc.out.keep hct)
  have HAt := Lib.hid (HAc.out.keep hct)
  clear happt hbt hbbt k0 k1 k2 k3 k4
  obtain ⟨k0, k1, k2, k3, k4⟩ := HTt.out
  go_wp2_with fail
  refine (rvarint_put _ (n : Int) (by omega)).mono ?_
  rintro e wna ⟨An, mn, cn, rfl, hownn, hbn⟩
  have HVn := Lib.hid hownn
  have hmn : mn ≤ 10 := by rw [← hownn.len]; exact varL_ten (by omega)
  have hcan : Below w1.heap.size w1 wna := hct.trans (hbn.mono hct.size)
  have hzn := hcan.size
  have HPtn := Lib.hid (HPt.out.keep hbn)
  clear hownn
  dsimp only
  go_step
  refine wp_append rfl (.tmp 32) (.tmp 36) rfl w1.heap.size Dt (my + mt) dt ((varL c.key) ++ varL c.total) rfl HPtn.out An mn cn (varL (n : Int)) rfl HVn.out.len HVn.out.rd (by omega) (by omega) ?_
  intro Dn dn wnb happn _ hbbn
  simp only [List.nil_append, Nat.zero_add] at happn ⊢
  have HPn := Lib.hid happn
  have hcn : Below w1.heap.size w1 wnb := hcan.trans hbbn
  have hzzn := hcn.size
  have HTn := Lib.hid (HTc.out.keep hcn)
  have HAn := Lib.hid (HAc.out.keep hcn)
  clear happn hbn hbbn k0 k1 k2 k3 k4
  obtain ⟨k0, k1, k2, k3, k4⟩ := HTn.out
  go_upto_region 11 with fail
  iterate 10 go_step
  refine wp_append rfl (.tmp 38) (.tmp 40) rfl w1.heap.size Dn ((my + mt) + mn) dn (((varL c.key) ++ varL c.total) ++ varL (n : Int)) rfl HPn.out A n d c.loc rfl HL.out HAn.out (by omega) (by omega) ?_
  intro Dl dl wl happl _ hbbl
  have HPl := Lib.hid happl
  have hcl : Below w1.heap.size w1 wl := hcn.trans hbbl
  have hzl := hcl.size
  have HTl := Lib.hid (HTc.out.keep hcl)
  clear happl hbbl k0 k1 k2 k3 k4
  obtain ⟨k0, k1, k2, k3, k4⟩ := HTl.out
  have hcell : cellB 1 c = (((varL c.key) ++ varL c.total) ++ varL (n : Int)) ++ c.loc ++ spillB c := by simp [cellB, childB, keyB, loadB, hasC, hasK, HL.out]
  have HCELL := Lib.hid hcell
  clear hcell
  by_cases hs : c.spill = 0
  · have es : (c.spill != 0) = false := by simp [hs]
    have hsp : spillB c = [] := if_pos hs
    have HSP := Lib.hid hsp
    clear hsp hs
    go_wp2
    rw [HR.out]
    exact ⟨_, _, _, rfl, by rw [HCELL.out, HSP.out, List.append_nil]; exact HPl.out.mono hB1.size, hB1.trans (hcl.mono hB1.size)⟩
  · have es : (c.spill != 0) = true := by simp [hs]
    have hsp : spillB c = varL c.spill := if_neg hs
    have HSP := Lib.hid hsp
    clear hsp hs
    go_wp2_with fail
    refine (rvarint_put _ c.spill HC3.out).mono ?_
    rintro e w8 ⟨A8, m8, c8, rfl, hown8, hb8⟩
    have HV8 := Lib.hid hown8
    have hm8 : m8 ≤ 10 := by rw [← hown8.len]; exact varL_ten HC3.out
    have HPl8 := Lib.hid (HPl.out.keep hb8)
    have hc8 : Below w1.heap.size w1 w8 := hcl.trans (hb8.mono hcl.size)
    have hz8 := hc8.size
    clear hown8
    dsimp only
    go_step
    refine wp_append rfl (.tmp 45) (.tmp 48) rfl w1.heap.size Dl (((my + mt) + mn) + n) dl ((((varL c.key) ++ varL c.total) ++ varL (n : Int)) ++ c.loc) rfl HPl8.out A8 m8 c8 (varL c.spill) rfl HV8.out.len HV8.out.rd (by omega) (by omega) ?_
    intro A9 c9 w9 hown9 _ hb9
    have HO9 := Lib.hid hown9
    have hc9 : Below w1.heap.size w1 w9 := hc8.trans hb9
    clear hown9 hb9 hb8
    go_wp2
    rw [HR.out]
    exact ⟨_, _, _, rfl, by rw [HCELL.out, HSP.out]; exact HO9.out.mono hB1.size, hB1.trans (hc9.mono hB1.size)⟩

set_option maxHeartbeats 8000000 in
theorem rcenc_two (w : World) (c : Cl) (A : Option Addr) (n d : Nat) (hc : c.ok) (hnd : n ≤ d) (hd : d ≤ maxLen) (hl : c.loc.length = n) (hA : Rd w A c.loc) (hg : goodC 2 c n) (R : Ending → World → Prop) (hR : R = EncOwn w (cellB 2 c) 0) :
    Calls Try.prog 36 #[.int .i64 2, c.val A n d] w R := by
  have HR := Lib.hid hR; clear hR
  have hz : checkZ 2 c n = 0 := if_pos hg
  have HZ := Lib.hid hz; clear hz
  obtain ⟨hc0, hc1, hc2, hc3⟩ := hc
  have HC0 := Lib.hid hc0
  have HC1 := Lib.hid hc1
  have HC2 := Lib.hid hc2
  have HC3 := Lib.hid hc3
  have HL := Lib.hid hl
  have HG := Lib.hid hg
  obtain ⟨W1, hW1⟩ : ∃ W, W = w.alloc (.cells #[.int .i64 c.key, .int .i64 c.child, .int .i64 c.total, .slice A n d, .int .i64 c.spill] 55) := ⟨_, rfl⟩
  have hbW : Below w.heap.size w W1 := by rw [hW1]; exact (Below.refl _ _).alloc (Nat.le_refl _) _
  have hat : ClAt W1 w.heap.size c A n d := by rw [hW1]; exact ⟨by simp [go_sem], by simp [go_sem], by simp [go_sem], by simp [go_sem], by simp [go_sem]⟩
  have HT := Lib.hid hat; clear hat
  have HA := Lib.hid (hA.keep hbW); clear hA
  have HW := Lib.hid hW1
  unfold Cl.val
  go_enter Try.func36, Try.ntmps36
  go_upto_region 1 with fail
  rw [← hW1]
  clear hW1 HW
  iterate 4 go_step
  refine wp_load_cl rfl _ rfl w.heap.size c A n d rfl HT.out ?_
  go_wp2_with fail
  refine (rcheckC_any _ 2 c A n d ⟨hc0, hc1, hc2, hc3⟩ (by unfold maxLen at hd; omega)).mono ?_
  rintro e w1 ⟨rfl, hb1⟩
  simp only [HZ.out]
  have hB1 : Below w.heap.size w w1 := hbW.trans (hb1.mono hbW.size)
  have HTc := Lib.hid (HT.out.keep hb1)
  have HAc := Lib.hid (HA.out.keep hb1)
  have hz1 := hb1.size
  have hbc : Below w1.heap.size w1 w1 := Below.refl _ _
  clear hb1 hc0 hc1 hc2 hc3 hg hl
  obtain ⟨k0, k1, k2, k3, k4⟩ := HTc.out
  go_wp2_with fail
  refine (rchild_any _ _).mono ?_
  rintro e w0 ⟨rfl, rfl⟩
  simp only [show decide (hasC 2) = true from rfl]
  go_wp2_with fail
  refine (rvarint_put _ c.child HC1.out).mono ?_
  rintro e wxa ⟨Ax, mx, cx, rfl, hownx, hbx⟩
  have HVx := Lib.hid hownx
  have hmx : mx ≤ 10 := by rw [← hownx.len]; exact varL_ten HC1.out
  have hcax : Below w1.heap.size w1 wxa := hbc.trans (hbx.mono hbc.size)
  have hzx := hcax.size
  clear hownx
  dsimp only
  go_step
  refine wp_append rfl (.tmp 13) (.tmp 16) rfl w1.heap.size none 0 0 [] rfl (OwnB.nil _ _) Ax mx cx (varL c.child) rfl HVx.out.len HVx.out.rd (by omega) (by omega) ?_
  intro Dx dx wxb happx _ hbbx
  simp only [List.nil_append, Nat.zero_add] at happx ⊢
  have HPx := Lib.hid happx
  have hcx : Below w1.heap.size w1 wxb := hcax.trans hbbx
  have hzzx := hcx.size
  have HTx := Lib.hid (HTc.out.keep hcx)
  have HAx := Lib.hid (HAc.out.keep hcx)
  clear happx hbx hbbx k0 k1 k2 k3 k4
  obtain ⟨k0, k1, k2, k3, k4⟩ := HTx.out
  go_wp2_with fail
  refine (rkeyed_any _ _).mono ?_
  rintro e w0 ⟨rfl, rfl⟩
  simp only [show decide (hasK 2) = true from rfl]
  go_wp2_with fail
  refine (rvarint_put _ c.key HC0.out).mono ?_
  rintro e wya ⟨Ay, my, cy, rfl, howny, hby⟩
  have HVy := Lib.hid howny
  have hmy : my ≤ 10 := by rw [← howny.len]; exact varL_ten HC0.out
  have hcay : Below w1.heap.size w1 wya := hcx.trans (hby.mono hcx.size)
  have hzy := hcay.size
  have HPxy := Lib.hid (HPx.out.keep hby)
  clear howny
  dsimp only
  go_step
  refine wp_append rfl (.tmp 20) (.tmp 23) rfl w1.heap.size Dx mx dx (varL c.child) rfl HPxy.out Ay my cy (varL c.key) rfl HVy.out.len HVy.out.rd (by omega) (by omega) ?_
  intro Dy dy wyb happy _ hbby
  simp only [List.nil_append, Nat.zero_add] at happy ⊢
  have HPy := Lib.hid happy
  have hcy : Below w1.heap.size w1 wyb := hcay.trans hbby
  have hzzy := hcy.size
  have HTy := Lib.hid (HTc.out.keep hcy)
  have HAy := Lib.hid (HAc.out.keep hcy)
  clear happy hby hbby k0 k1 k2 k3 k4
  obtain ⟨k0, k1, k2, k3, k4⟩ := HTy.out
  go_wp2_with fail
  refine (rpays_any _ _).mono ?_
  rintro e w0 ⟨rfl, rfl⟩
  simp only [show decide ((2 : Int) ≠ 2) = false from rfl]
  go_wp2
  rw [HR.out]
  have hcell : cellB 2 c = ((varL c.child) ++ varL c.key) := by simp [cellB, childB, keyB, loadB, hasC, hasK]
  rw [hcell]
  exact ⟨_, _, _, rfl, HPy.out.mono hB1.size, hB1.trans (hcy.mono hB1.size)⟩

set_option maxHeartbeats 8000000 in
theorem rcenc_three (w : World) (c : Cl) (A : Option Addr) (n d : Nat) (hc : c.ok) (hnd : n ≤ d) (hd : d ≤ maxLen) (hl : c.loc.length = n) (hA : Rd w A c.loc) (hg : goodC 3 c n) (R : Ending → World → Prop) (hR : R = EncOwn w (cellB 3 c) 0) :
    Calls Try.prog 36 #[.int .i64 3, c.val A n d] w R := by
  have HR := Lib.hid hR; clear hR
  have hz : checkZ 3 c n = 0 := if_pos hg
  have HZ := Lib.hid hz; clear hz
  obtain ⟨hc0, hc1, hc2, hc3⟩ := hc
  have HC0 := Lib.hid hc0
  have HC1 := Lib.hid hc1
  have HC2 := Lib.hid hc2
  have HC3 := Lib.hid hc3
  have HL := Lib.hid hl
  have HG := Lib.hid hg
  obtain ⟨W1, hW1⟩ : ∃ W, W = w.alloc (.cells #[.int .i64 c.key, .int .i64 c.child, .int .i64 c.total, .slice A n d, .int .i64 c.spill] 55) := ⟨_, rfl⟩
  have hbW : Below w.heap.size w W1 := by rw [hW1]; exact (Below.refl _ _).alloc (Nat.le_refl _) _
  have hat : ClAt W1 w.heap.size c A n d := by rw [hW1]; exact ⟨by simp [go_sem], by simp [go_sem], by simp [go_sem], by simp [go_sem], by simp [go_sem]⟩
  have HT := Lib.hid hat; clear hat
  have HA := Lib.hid (hA.keep hbW); clear hA
  have HW := Lib.hid hW1
  unfold Cl.val
  go_enter Try.func36, Try.ntmps36
  go_upto_region 1 with fail
  rw [← hW1]
  clear hW1 HW
  iterate 4 go_step
  refine wp_load_cl rfl _ rfl w.heap.size c A n d rfl HT.out ?_
  go_wp2_with fail
  refine (rcheckC_any _ 3 c A n d ⟨hc0, hc1, hc2, hc3⟩ (by unfold maxLen at hd; omega)).mono ?_
  rintro e w1 ⟨rfl, hb1⟩
  simp only [HZ.out]
  have hB1 : Below w.heap.size w w1 := hbW.trans (hb1.mono hbW.size)
  have HTc := Lib.hid (HT.out.keep hb1)
  have HAc := Lib.hid (HA.out.keep hb1)
  have hz1 := hb1.size
  have hbc : Below w1.heap.size w1 w1 := Below.refl _ _
  clear hb1 hc0 hc1 hc2 hc3 hg hl
  obtain ⟨k0, k1, k2, k3, k4⟩ := HTc.out
  have hgl := HG.out.2.2.2.2.1 (by decide)
  obtain ⟨gt0, gt1, gn, gs0, gs1⟩ := hgl
  have hnn : n ≤ 16384 := by omega
  go_wp2_with fail
  refine (rchild_any _ _).mono ?_
  rintro e w0 ⟨rfl, rfl⟩
  simp only [show decide (hasC 3) = false from rfl]
  go_wp2_with fail
  refine (rkeyed_any _ _).mono ?_
  rintro e w0 ⟨rfl, rfl⟩
  simp only [show decide (hasK 3) = false from rfl]
  go_wp2_with fail
  refine (rpays_any _ _).mono ?_
  rintro e w0 ⟨rfl, rfl⟩
  simp only [show decide ((3 : Int) ≠ 2) = true from rfl]
  go_wp2_with fail
  refine (rvarint_put _ c.total HC2.out).mono ?_
  rintro e wta ⟨At, mt, ct, rfl, hownt, hbt⟩
  have HVt := Lib.hid hownt
  have hmt : mt ≤ 10 := by rw [← hownt.len]; exact varL_ten HC2.out
  have hcat : Below w1.heap.size w1 wta := hbc.trans (hbt.mono hbc.size)
  have hzt := hcat.size
  clear hownt
  dsimp only
  go_step
  refine wp_append rfl (.tmp 27) (.tmp 30) rfl w1.heap.size none 0 0 [] rfl (OwnB.nil _ _) At mt ct (varL c.total) rfl HVt.out.len HVt.out.rd (by omega) (by omega) ?_
  intro Dt dt wtb happt _ hbbt
  simp only [List.nil_append, Nat.zero_add] at happt ⊢
  have HPt := Lib.hid happt
  have hct : Below w1.heap.size w1 wtb := hcat.trans hbbt
  have hzzt := hct.size
  have HTt := Lib.hid (HTc.out.keep hct)
  have HAt := Lib.hid (HAc.out.keep hct)
  clear happt hbt hbbt k0 k1 k2 k3 k4
  obtain ⟨k0, k1, k2, k3, k4⟩ := HTt.out
  go_wp2_with fail
  refine (rvarint_put _ (n : Int) (by omega)).mono ?_
  rintro e wna ⟨An, mn, cn, rfl, hownn, hbn⟩
  have HVn := Lib.hid hownn
  have hmn : mn ≤ 10 := by rw [← hownn.len]; exact varL_ten (by omega)
  have hcan : Below w1.heap.size w1 wna := hct.trans (hbn.mono hct.size)
  have hzn := hcan.size
  have HPtn := Lib.hid (HPt.out.keep hbn)
  clear hownn
  dsimp only
  go_step
  refine wp_append rfl (.tmp 32) (.tmp 36) rfl w1.heap.size Dt mt dt (varL c.total) rfl HPtn.out An mn cn (varL (n : Int)) rfl HVn.out.len HVn.out.rd (by omega) (by omega) ?_
  intro Dn dn wnb happn _ hbbn
  simp only [List.nil_append, Nat.zero_add] at happn ⊢
  have HPn := Lib.hid happn
  have hcn : Below w1.heap.size w1 wnb := hcan.trans hbbn
  have hzzn := hcn.size
  have HTn := Lib.hid (HTc.out.keep hcn)
  have HAn := Lib.hid (HAc.out.keep hcn)
  clear happn hbn hbbn k0 k1 k2 k3 k4
  obtain ⟨k0, k1, k2, k3, k4⟩ := HTn.out
  go_upto_region 11 with fail
  iterate 10 go_step
  refine wp_append rfl (.tmp 38) (.tmp 40) rfl w1.heap.size Dn (mt + mn) dn ((varL c.total) ++ varL (n : Int)) rfl HPn.out A n d c.loc rfl HL.out HAn.out (by omega) (by omega) ?_
  intro Dl dl wl happl _ hbbl
  have HPl := Lib.hid happl
  have hcl : Below w1.heap.size w1 wl := hcn.trans hbbl
  have hzl := hcl.size
  have HTl := Lib.hid (HTc.out.keep hcl)
  clear happl hbbl k0 k1 k2 k3 k4
  obtain ⟨k0, k1, k2, k3, k4⟩ := HTl.out
  have hcell : cellB 3 c = ((varL c.total) ++ varL (n : Int)) ++ c.loc ++ spillB c := by simp [cellB, childB, keyB, loadB, hasC, hasK, HL.out]
  have HCELL := Lib.hid hcell
  clear hcell
  by_cases hs : c.spill = 0
  · have es : (c.spill != 0) = false := by simp [hs]
    have hsp : spillB c = [] := if_pos hs
    have HSP := Lib.hid hsp
    clear hsp hs
    go_wp2
    rw [HR.out]
    exact ⟨_, _, _, rfl, by rw [HCELL.out, HSP.out, List.append_nil]; exact HPl.out.mono hB1.size, hB1.trans (hcl.mono hB1.size)⟩
  · have es : (c.spill != 0) = true := by simp [hs]
    have hsp : spillB c = varL c.spill := if_neg hs
    have HSP := Lib.hid hsp
    clear hsp hs
    go_wp2_with fail
    refine (rvarint_put _ c.spill HC3.out).mono ?_
    rintro e w8 ⟨A8, m8, c8, rfl, hown8, hb8⟩
    have HV8 := Lib.hid hown8
    have hm8 : m8 ≤ 10 := by rw [← hown8.len]; exact varL_ten HC3.out
    have HPl8 := Lib.hid (HPl.out.keep hb8)
    have hc8 : Below w1.heap.size w1 w8 := hcl.trans (hb8.mono hcl.size)
    have hz8 := hc8.size
    clear hown8
    dsimp only
    go_step
    refine wp_append rfl (.tmp 45) (.tmp 48) rfl w1.heap.size Dl ((mt + mn) + n) dl (((varL c.total) ++ varL (n : Int)) ++ c.loc) rfl HPl8.out A8 m8 c8 (varL c.spill) rfl HV8.out.len HV8.out.rd (by omega) (by omega) ?_
    intro A9 c9 w9 hown9 _ hb9
    have HO9 := Lib.hid hown9
    have hc9 : Below w1.heap.size w1 w9 := hc8.trans hb9
    clear hown9 hb9 hb8
    go_wp2
    rw [HR.out]
    exact ⟨_, _, _, rfl, by rw [HCELL.out, HSP.out]; exact HO9.out.mono hB1.size, hB1.trans (hc9.mono hB1.size)⟩

set_option maxHeartbeats 8000000 in
theorem rcenc_four (w : World) (c : Cl) (A : Option Addr) (n d : Nat) (hc : c.ok) (hnd : n ≤ d) (hd : d ≤ maxLen) (hl : c.loc.length = n) (hA : Rd w A c.loc) (hg : goodC 4 c n) (R : Ending → World → Prop) (hR : R = EncOwn w (cellB 4 c) 0) :
    Calls Try.prog 36 #[.int .i64 4, c.val A n d] w R := by
  have HR := Lib.hid hR; clear hR
  have hz : checkZ 4 c n = 0 := if_pos hg
  have HZ := Lib.hid hz; clear hz
  obtain ⟨hc0, hc1, hc2, hc3⟩ := hc
  have HC0 := Lib.hid hc0
  have HC1 := Lib.hid hc1
  have HC2 := Lib.hid hc2
  have HC3 := Lib.hid hc3
  have HL := Lib.hid hl
  have HG := Lib.hid hg
  obtain ⟨W1, hW1⟩ : ∃ W, W = w.alloc (.cells #[.int .i64 c.key, .int .i64 c.child, .int .i64 c.total, .slice A n d, .int .i64 c.spill] 55) := ⟨_, rfl⟩
  have hbW : Below w.heap.size w W1 := by rw [hW1]; exact (Below.refl _ _).alloc (Nat.le_refl _) _
  have hat : ClAt W1 w.heap.size c A n d := by rw [hW1]; exact ⟨by simp [go_sem], by simp [go_sem], by simp [go_sem], by simp [go_sem], by simp [go_sem]⟩
  have HT := Lib.hid hat; clear hat
  have HA := Lib.hid (hA.keep hbW); clear hA
  have HW := Lib.hid hW1
  unfold Cl.val
  go_enter Try.func36, Try.ntmps36
  go_upto_region 1 with fail
  rw [← hW1]
  clear hW1 HW
  iterate 4 go_step
  refine wp_load_cl rfl _ rfl w.heap.size c A n d rfl HT.out ?_
  go_wp2_with fail
  refine (rcheckC_any _ 4 c A n d ⟨hc0, hc1, hc2, hc3⟩ (by unfold maxLen at hd; omega)).mono ?_
  rintro e w1 ⟨rfl, hb1⟩
  simp only [HZ.out]
  have hB1 : Below w.heap.size w w1 := hbW.trans (hb1.mono hbW.size)
  have HTc := Lib.hid (HT.out.keep hb1)
  have HAc := Lib.hid (HA.out.keep hb1)
  have hz1 := hb1.size
  have hbc : Below w1.heap.size w1 w1 := Below.refl _ _
  clear hb1 hc0 hc1 hc2 hc3 hg hl
  obtain ⟨k0, k1, k2, k3, k4⟩ := HTc.out
  have hgl := HG.out.2.2.2.2.1 (by decide)
  obtain ⟨gt0, gt1, gn, gs0, gs1⟩ := hgl
  have hnn : n ≤ 16384 := by omega
  go_wp2_with fail
  refine (rchild_any _ _).mono ?_
  rintro e w0 ⟨rfl, rfl⟩
  simp only [show decide (hasC 4) = true from rfl]
  go_wp2_with fail
  refine (rvarint_put _ c.child HC1.out).mono ?_
  rintro e wxa ⟨Ax, mx, cx, rfl, hownx, hbx⟩
  have HVx := Lib.hid hownx
  have hmx : mx ≤ 10 := by rw [← hownx.len]; exact varL_ten HC1.out
  have hcax : Below w1.heap.size w1 wxa := hbc.trans (hbx.mono hbc.size)
  have hzx := hcax.size
  clear hownx
  dsimp only
  go_step
  refine wp_append rfl (.tmp 13) (.tmp 16) rfl w1.heap.size none 0 0 [] rfl (OwnB.nil _ _) Ax mx cx (varL c.child) rfl HVx.out.len HVx.out.rd (by omega) (by omega) ?_
  intro Dx dx wxb happx _ hbbx
  simp only [List.nil_append, Nat.zero_add] at happx ⊢
  have HPx := Lib.hid happx
  have hcx : Below w1.heap.size w1 wxb := hcax.trans hbbx
  have hzzx := hcx.size
  have HTx := Lib.hid (HTc.out.keep hcx)
  have HAx := Lib.hid (HAc.out.keep hcx)
  clear happx hbx hbbx k0 k1 k2 k3 k4
  obtain ⟨k0, k1, k2, k3, k4⟩ := HTx.out
  go_wp2_with fail
  refine (rkeyed_any _ _).mono ?_
  rintro e w0 ⟨rfl, rfl⟩
  simp only [show decide (hasK 4) = false from rfl]
  go_wp2_with fail
  refine (rpays_any _ _).mono ?_
  rintro e w0 ⟨rfl, rfl⟩
  simp only [show decide ((4 : Int) ≠ 2) = true from rfl]
  go_wp2_with fail
  refine (rvarint_put _ c.total HC2.out).mono ?_
  rintro e wta ⟨At, mt, ct, rfl, hownt, hbt⟩
  have HVt := Lib.hid hownt
  have hmt : mt ≤ 10 := by rw [← hownt.len]; exact varL_ten HC2.out
  have hcat : Below w1.heap.size w1 wta := hcx.trans (hbt.mono hcx.size)
  have hzt := hcat.size
  have HPxt := Lib.hid (HPx.out.keep hbt)
  clear hownt
  dsimp only
  go_step
  refine wp_append rfl (.tmp 27) (.tmp 30) rfl w1.heap.size Dx mx dx (varL c.child) rfl HPxt.out At mt ct (varL c.total) rfl HVt.out.len HVt.out.rd (by omega) (by omega) ?_
  intro Dt dt wtb happt _ hbbt
  simp only [List.nil_append, Nat.zero_add] at happt ⊢
  have HPt := Lib.hid happt
  have hct : Below w1.heap.size w1 wtb := hcat.trans hbbt
  have hzzt := hct.size
  have HTt := Lib.hid (HTc.out.keep hct)
  have HAt := Lib.hid (HAc.out.keep hct)
  clear happt hbt hbbt k0 k1 k2 k3 k4
  obtain ⟨k0, k1, k2, k3, k4⟩ := HTt.out
  go_wp2_with fail
  refine (rvarint_put _ (n : Int) (by omega)).mono ?_
  rintro e wna ⟨An, mn, cn, rfl, hownn, hbn⟩
  have HVn := Lib.hid hownn
  have hmn : mn ≤ 10 := by rw [← hownn.len]; exact varL_ten (by omega)
  have hcan : Below w1.heap.size w1 wna := hct.trans (hbn.mono hct.size)
  have hzn := hcan.size
  have HPtn := Lib.hid (HPt.out.keep hbn)
  clear hownn
  dsimp only
  go_step
  refine wp_append rfl (.tmp 32) (.tmp 36) rfl w1.heap.size Dt (mx + mt) dt ((varL c.child) ++ varL c.total) rfl HPtn.out An mn cn (varL (n : Int)) rfl HVn.out.len HVn.out.rd (by omega) (by omega) ?_
  intro Dn dn wnb happn _ hbbn
  simp only [List.nil_append, Nat.zero_add] at happn ⊢
  have HPn := Lib.hid happn
  have hcn : Below w1.heap.size w1 wnb := hcan.trans hbbn
  have hzzn := hcn.size
  have HTn := Lib.hid (HTc.out.keep hcn)
  have HAn := Lib.hid (HAc.out.keep hcn)
  clear happn hbn hbbn k0 k1 k2 k3 k4
  obtain ⟨k0, k1, k2, k3, k4⟩ := HTn.out
  go_upto_region 11 with fail
  iterate 10 go_step
  refine wp_append rfl (.tmp 38) (.tmp 40) rfl w1.heap.size Dn ((mx + mt) + mn) dn (((varL c.child) ++ varL c.total) ++ varL (n : Int)) rfl HPn.out A n d c.loc rfl HL.out HAn.out (by omega) (by omega) ?_
  intro Dl dl wl happl _ hbbl
  have HPl := Lib.hid happl
  have hcl : Below w1.heap.size w1 wl := hcn.trans hbbl
  have hzl := hcl.size
  have HTl := Lib.hid (HTc.out.keep hcl)
  clear happl hbbl k0 k1 k2 k3 k4
  obtain ⟨k0, k1, k2, k3, k4⟩ := HTl.out
  have hcell : cellB 4 c = (((varL c.child) ++ varL c.total) ++ varL (n : Int)) ++ c.loc ++ spillB c := by simp [cellB, childB, keyB, loadB, hasC, hasK, HL.out]
  have HCELL := Lib.hid hcell
  clear hcell
  by_cases hs : c.spill = 0
  · have es : (c.spill != 0) = false := by simp [hs]
    have hsp : spillB c = [] := if_pos hs
    have HSP := Lib.hid hsp
    clear hsp hs
    go_wp2
    rw [HR.out]
    exact ⟨_, _, _, rfl, by rw [HCELL.out, HSP.out, List.append_nil]; exact HPl.out.mono hB1.size, hB1.trans (hcl.mono hB1.size)⟩
  · have es : (c.spill != 0) = true := by simp [hs]
    have hsp : spillB c = varL c.spill := if_neg hs
    have HSP := Lib.hid hsp
    clear hsp hs
    go_wp2_with fail
    refine (rvarint_put _ c.spill HC3.out).mono ?_
    rintro e w8 ⟨A8, m8, c8, rfl, hown8, hb8⟩
    have HV8 := Lib.hid hown8
    have hm8 : m8 ≤ 10 := by rw [← hown8.len]; exact varL_ten HC3.out
    have HPl8 := Lib.hid (HPl.out.keep hb8)
    have hc8 : Below w1.heap.size w1 w8 := hcl.trans (hb8.mono hcl.size)
    have hz8 := hc8.size
    clear hown8
    dsimp only
    go_step
    refine wp_append rfl (.tmp 45) (.tmp 48) rfl w1.heap.size Dl (((mx + mt) + mn) + n) dl ((((varL c.child) ++ varL c.total) ++ varL (n : Int)) ++ c.loc) rfl HPl8.out A8 m8 c8 (varL c.spill) rfl HV8.out.len HV8.out.rd (by omega) (by omega) ?_
    intro A9 c9 w9 hown9 _ hb9
    have HO9 := Lib.hid hown9
    have hc9 : Below w1.heap.size w1 w9 := hc8.trans hb9
    clear hown9 hb9 hb8
    go_wp2
    rw [HR.out]
    exact ⟨_, _, _, rfl, by rw [HCELL.out, HSP.out]; exact HO9.out.mono hB1.size, hB1.trans (hc9.mono hB1.size)⟩

theorem rcencC_any (w : World) (k : Int) (c : Cl) (A : Option Addr) (n d : Nat) (hc : c.ok) (hnd : n ≤ d) (hd : d ≤ maxLen) (hl : c.loc.length = n) (hA : Rd w A c.loc) :
    Calls Try.prog 36 #[.int .i64 k, c.val A n d] w (EncOwn w (encC k c) (checkZ k c n)) := by
  by_cases hg : goodC k c n
  · rw [show encC k c = cellB k c from if_pos (by rw [hl]; exact hg), show checkZ k c n = 0 from if_pos hg]
    have := hg.1
    unfold isK at this
    rcases (by omega : k = 1 ∨ k = 2 ∨ k = 3 ∨ k = 4) with rfl | rfl | rfl | rfl
    · exact rcenc_one w c A n d hc hnd hd hl hA hg _ rfl
    · exact rcenc_two w c A n d hc hnd hd hl hA hg _ rfl
    · exact rcenc_three w c A n d hc hnd hd hl hA hg _ rfl
    · exact rcenc_four w c A n d hc hnd hd hl hA hg _ rfl
  · exact rcenc_no w k c A n d hc (by unfold maxLen at hd; omega) hl hg _ rfl
end
section
open Go.RowKit
set_option maxRecDepth 100000
set_option linter.unusedSimpArgs false
set_option linter.unusedVariables false
set_option maxHeartbeats 8000000 in
theorem cenc_one (w : World) (c : Cl) (A : Option Addr) (n d : Nat) (hc : c.ok) (hnd : n ≤ d) (hd : d ≤ maxLen) (hl : c.loc.length = n) (hA : Rd w A c.loc) (hg : goodC 1 c n) (R : Ending → World → Prop) (hR : R = EncBack w (cellB 1 c) 0) :
    Calls Try.prog 35 #[.int .i64 1, c.val A n d] w R := by
  have HR := Lib.hid hR; clear hR
  have hz : checkZ 1 c n = 0 := if_pos hg
  have HZ := Lib.hid hz; clear hz
  obtain ⟨hc0, hc1, hc2, hc3⟩ := hc
  have HC0 := Lib.hid hc0
  have HC1 := Lib.hid hc1
  have HC2 := Lib.hid hc2
  have HC3 := Lib.hid hc3
  have HL := Lib.hid hl
  have HG := Lib.hid hg
  obtain ⟨W1, hW1⟩ : ∃ W, W = w.alloc (.cells #[.int .i64 c.key, .int .i64 c.child, .int .i64 c.total, .slice A n d, .int .i64 c.spill] 55) := ⟨_, rfl⟩
  have hbW : Below w.heap.size w W1 := by rw [hW1]; exact (Below.refl _ _).alloc (Nat.le_refl _) _
  have hsW : W1.heap.size = w.heap.size + 1 := by rw [hW1]; simp
  have hat : ClAt W1 w.heap.size c A n d := by rw [hW1]; exact ⟨by simp [go_sem], by simp [go_sem], by simp [go_sem], by simp [go_sem], by simp [go_sem]⟩
  have HT := Lib.hid hat; clear hat
  have HA := Lib.hid (hA.keep hbW); clear hA
  have HW := Lib.hid hW1
  unfold Cl.val
  go_enter Try.func35, Try.ntmps35
  go_upto_region 1 with fail
  rw [← hW1]
  clear hW1 HW
  iterate 4 go_step
  refine wp_load_cl rfl _ rfl w.heap.size c A n d rfl HT.out ?_
  go_wp2_with fail
  refine (checkC_any _ 1 c A n d ⟨hc0, hc1, hc2, hc3⟩ (by unfold maxLen at hd; omega)).mono ?_
  rintro e w1 ⟨rfl, hb1⟩
  simp only [HZ.out]
  have hB1 : Below w.heap.size w w1 := hbW.trans (hb1.mono hbW.size)
  have HT1 := Lib.hid (HT.out.keep hb1)
  have HA1 := Lib.hid (HA.out.keep hb1)
  have hz1 := hb1.size
  clear hb1 hc0 hc1 hc2 hc3 hg hl
  go_wp2_with fail
  refine (has_one _).mono ?_
  rintro e w2 ⟨rfl, rfl⟩
  obtain ⟨k0, k1, k2, k3, k4⟩ := HT1.out
  go_wp2_with fail
  refine (varint_put _ c.key HC0.out).mono ?_
  rintro e wya ⟨Ay, my, cy, rfl, howny, hby⟩
  have HVy := Lib.hid howny
  have hmy : my ≤ 10 := by rw [← howny.len]; exact varL_ten HC0.out
  have hmyp : 1 ≤ my := by rw [← howny.len]; exact vl_pos _
  have hB1y : Below w.heap.size w wya := hB1.trans (hby.mono hB1.size)
  have hzy := hby.size
  clear howny
  dsimp only
  go_step
  refine wp_append rfl (.tmp 32) (.tmp 35) rfl w1.heap.size none 0 0 [] rfl (OwnB.nil _ _) Ay my cy (varL c.key) rfl HVy.out.len HVy.out.rd (by omega) (by omega) ?_
  intro Dy dy wyb happy _ hbby
  simp only [List.nil_append, Nat.zero_add] at happy ⊢
  have HPy := Lib.hid happy
  have hBBy : Below w.heap.size w wyb := hB1y.trans (hbby.mono hB1.size)
  have hb1y : Below w1.heap.size w1 wyb := (hby).trans hbby
  have hzzy := hb1y.size
  have HTy := Lib.hid (HT1.out.keep hb1y)
  have HAy := Lib.hid (HA1.out.keep hb1y)
  clear happy hby hbby k0 k1 k2 k3 k4
  obtain ⟨k0, k1, k2, k3, k4⟩ := HTy.out
  have hgl := HG.out.2.2.2.2.1 (by decide)
  obtain ⟨gt0, gt1, gn, gs0, gs1⟩ := hgl
  have hnn : n ≤ 16384 := by omega
  have HPR := Lib.hid (show Rd wyb Dy (varL c.key) from HPy.out.rd)
  have HPL := Lib.hid (show ((varL c.key) : List Int).length = my from HPy.out.len)
  have HPC := Lib.hid (show my ≤ dy ∧ dy ≤ maxLen from HPy.out.cap)
  have K2 : ∀ W : World, Below wyb.heap.size wyb W → W.cell? ⟨w.heap.size, 2, none⟩ = some (.int .i64 c.total) := fun W hW => (HTy.out.keep hW).2.2.1
  have K3 : ∀ W : World, Below wyb.heap.size wyb W → W.cell? ⟨w.heap.size, 3, none⟩ = some (.slice A n d) := fun W hW => (HTy.out.keep hW).2.2.2.1
  go_upto_region 11 with fail
  clear k0 k1 k2 k3 k4
  refine wp_region_held_drew (S := (fun W => Below wyb.heap.size wyb W)) (by kernel_rfl) ?_ (fun hHeld => ?_)
  · exact (Below.refl _ wyb).drew
  refine' wpAnyH_take (i := 0) (oi := _) (v := _) rfl (by kernel_rfl) (by kernel_rfl) (by kernel_rfl) (fun _ _ _ h => h) (Or.inl ⟨by rfl, ?hy0⟩) (by assumption) ?rest0
  case hy0 => (intro w' hSw; (try dsimp only at hSw); go_simp; try with_reducible rfl)
  try simp only [Act.put, List.setIfInBounds_toArray, List.set_cons_zero, List.set_cons_succ, List.getElem_toArray, List.getElem_cons_zero, List.getElem_cons_succ]
  refine' wpAnyH_take (i := 1) (oi := _) (v := _) rfl (by kernel_rfl) (by kernel_rfl) (by kernel_rfl) (fun _ _ _ h => h) (Or.inl ⟨by rfl, ?hy1⟩) (by assumption) ?rest1
  case hy1 => (intro w' hSw; (try dsimp only at hSw); go_simp; try with_reducible rfl)
  try simp only [Act.put, List.setIfInBounds_toArray, List.set_cons_zero, List.set_cons_succ, List.getElem_toArray, List.getElem_cons_zero, List.getElem_cons_succ]
  refine' wpAnyH_take (i := 2) (oi := _) (v := _) rfl (by kernel_rfl) (by kernel_rfl) (by kernel_rfl) (fun _ _ _ h => h) (Or.inl ⟨by rfl, ?hy2⟩) (by assumption) ?rest2
  case hy2 => (intro w' hSw; (try dsimp only at hSw); go_simp; try with_reducible rfl)
  try simp only [Act.put, List.setIfInBounds_toArray, List.set_cons_zero, List.set_cons_succ, List.getElem_toArray, List.getElem_cons_zero, List.getElem_cons_succ]
  refine' wpAnyH_take (i := 4) (oi := _) (v := _) rfl (by kernel_rfl) (by kernel_rfl) (by kernel_rfl) (fun _ _ _ h => h) (Or.inl ⟨by rfl, ?hy4⟩) (by assumption) ?rest4
  case hy4 => (intro w' hSw; (try dsimp only at hSw); go_simp; try with_reducible rfl)
  try simp only [Act.put, List.setIfInBounds_toArray, List.set_cons_zero, List.set_cons_succ, List.getElem_toArray, List.getElem_cons_zero, List.getElem_cons_succ]
  refine' wpAnyH_take (i := 5) (oi := _) (v := _) rfl (by kernel_rfl) (by kernel_rfl) (by kernel_rfl) (fun _ _ _ h => h) (Or.inl ⟨by rfl, ?hy5⟩) (by assumption) ?rest5
  case hy5 => (intro w' hSw; (try dsimp only at hSw); go_simp; try with_reducible rfl)
  try simp only [Act.put, List.setIfInBounds_toArray, List.set_cons_zero, List.set_cons_succ, List.getElem_toArray, List.getElem_cons_zero, List.getElem_cons_succ]
  refine' wpAnyH_take (i := 6) (oi := _) (v := _) rfl (by kernel_rfl) (by kernel_rfl) (by kernel_rfl) (fun _ _ _ h => h) (Or.inl ⟨by rfl, ?hy6⟩) (by assumption) ?rest6
  case hy6 => (intro w' hSw; (try dsimp only at hSw); go_simp; try with_reducible rfl)
  try simp only [Act.put, List.setIfInBounds_toArray, List.set_cons_zero, List.set_cons_succ, List.getElem_toArray, List.getElem_cons_zero, List.getElem_cons_succ]
  refine' wpAnyH_take (i := 8) (oi := _) (v := _) rfl (by kernel_rfl) (by kernel_rfl) (by kernel_rfl) (fun _ _ _ h => h) (Or.inl ⟨by rfl, ?hy8⟩) (by assumption) ?rest8
  case hy8 => (intro w' hSw; (try dsimp only at hSw); go_simp; try with_reducible rfl)
  try simp only [Act.put, List.setIfInBounds_toArray, List.set_cons_zero, List.set_cons_succ, List.getElem_toArray, List.getElem_cons_zero, List.getElem_cons_succ]
  refine' wpAnyH_take (i := 9) (oi := _) (v := _) rfl (by kernel_rfl) (by kernel_rfl) (by kernel_rfl) (fun _ _ _ h => h) (Or.inl ⟨by rfl, ?hy9⟩) (by assumption) ?rest9
  case hy9 => (intro w' hSw; (try dsimp only at hSw); go_simp; try with_reducible rfl)
  try simp only [Act.put, List.setIfInBounds_toArray, List.set_cons_zero, List.set_cons_succ, List.getElem_toArray, List.getElem_cons_zero, List.getElem_cons_succ]
  refine wpAnyH_ready (rs := [3]) (by kernel_rfl) (by simp) ?_
  refine AllReadyH.cons (o := _) rfl (fun K hK => ?_) AllReadyH.nil
  go_simp
  go_at_call 84
  refine (varint_put _ c.total HC2.out).mono ?_
  rintro e w5 ⟨A5, m5, c5, rfl, hown5, hb5⟩
  have hb5' : Below wyb.heap.size wyb w5 := ((Below.refl _ wyb).drew).trans hb5
  have HV5 := Lib.hid hown5
  have hm5 : m5 ≤ 10 := by rw [← hown5.len]; exact varL_ten HC2.out
  have hm5p : 1 ≤ m5 := by rw [← hown5.len]; exact vl_pos _
  clear hown5 hb5
  refine hK.out _ _ ?_ (fun hHeld => ?_)
  · exact hb5'
  clear hK K
  try simp only [Act.put, List.setIfInBounds_toArray, List.set_cons_zero, List.set_cons_succ, List.getElem_toArray, List.getElem_cons_zero, List.getElem_cons_succ]
  refine wpAnyH_ready (rs := [7]) (by kernel_rfl) (by simp) ?_
  refine AllReadyH.cons (o := _) rfl (fun K hK => ?_) AllReadyH.nil
  go_simp
  go_at_call 84
  refine (varint_put _ (n : Int) (by omega)).mono ?_
  rintro e w6 ⟨A6, m6, c6, rfl, hown6, hb6⟩
  have hb6' : Below wyb.heap.size wyb w6 := hb5'.trans (hb6.mono hb5'.size)
  have HV6 := Lib.hid hown6
  have HV56 := Lib.hid (HV5.out.keep hb6)
  have hm6 : m6 ≤ 10 := by rw [← hown6.len]; exact varL_ten (by omega)
  clear hown6 hb6
  refine hK.out _ _ ?_ (fun hHeld => ?_)
  · exact hb6'
  clear hK K
  try simp only [Act.put, List.setIfInBounds_toArray, List.set_cons_zero, List.set_cons_succ, List.getElem_toArray, List.getElem_cons_zero, List.getElem_cons_succ]
  refine wpAnyH_ready (rs := [10]) (by kernel_rfl) (by simp) ?_
  refine AllReadyH.cons (o := _) rfl (fun K hK => ?_) AllReadyH.nil
  go_simp
  refine hK.out _ _ ?_ (fun hHeld => ?_)
  · exact hb6'.alloc hb6'.size _
  clear hK K
  try simp only [Act.put, List.setIfInBounds_toArray, List.set_cons_zero, List.set_cons_succ, List.getElem_toArray, List.getElem_cons_zero, List.getElem_cons_succ]
  refine wpAnyH_ready (rs := [11]) (by kernel_rfl) (by simp) ?_
  refine AllReadyH.cons (o := _) rfl (fun K hK => ?_) AllReadyH.nil
  go_simp
  go_at_call 85
  refine (join_any _ _ 4 4 [(varL c.key), varL c.total, varL (n : Int), c.loc] rfl (by decide) (Nat.le_refl _) (by decide) (rows4 _ _ HPL.out HPC.out.1 HPC.out.2 (HPR.out.keep hb6') HV56.out.len HV56.out.cap.1 HV56.out.cap.2 HV56.out.rd HV6.out.len HV6.out.cap.1 HV6.out.cap.2 HV6.out.rd HL.out hnd hd (HAy.out.keep hb6')) (by simp only [List.flatten_cons, List.flatten_nil, List.length_append, List.length_nil, HPL.out, HV56.out.len, HV6.out.len, HL.out]; omega)).mono ?_
  rintro e w7 hf
  obtain ⟨g7, n7, rfl, h71, h72, h73, h74, h75, h76⟩ := fresh_rd hf
  have HG7 := Lib.hid (show w.heap.size ≤ g7 ∧ g7 < w7.heap.size from ⟨by have := hb6'.size; have := hBBy.size; simp at h75; omega, h76⟩)
  have hb7' : Below wyb.heap.size wyb w7 := (hb6'.alloc hb6'.size _).trans (h74.mono (by simp; have := hb6'.size; omega))
  clear hf h74 h75 h76
  refine hK.out _ _ ?_ (fun hHeld => ?_)
  · exact hb7'
  clear hK K
  try simp only [Act.put, List.setIfInBounds_toArray, List.set_cons_zero, List.set_cons_succ, List.getElem_toArray, List.getElem_cons_zero, List.getElem_cons_succ]
  refine' wpAnyH_take (i := 12) (oi := _) (v := _) rfl (by kernel_rfl) (by kernel_rfl) (by kernel_rfl) (fun _ _ _ h => h) (Or.inl ⟨by rfl, ?hy12⟩) (by assumption) ?rest12
  case hy12 => (intro w' hSw; (try dsimp only at hSw); go_simp; try with_reducible rfl)
  try simp only [Act.put, List.setIfInBounds_toArray, List.set_cons_zero, List.set_cons_succ, List.getElem_toArray, List.getElem_cons_zero, List.getElem_cons_succ]
  refine wpAnyH_done (by kernel_rfl) ?_ _
  have hB7 : Below w.heap.size w w7 := hBBy.trans (hb7'.mono hBBy.size)
  obtain ⟨k0, k1, k2, k3, k4⟩ := HTy.out.keep hb7'
  have hfl : [(varL c.key), varL c.total, varL (n : Int), c.loc].flatten = (varL c.key) ++ (varL c.total ++ (varL (n : Int) ++ c.loc)) := by simp
  rw [hfl] at h71 h73
  have hn7 : n7 = my + (m5 + (m6 + n)) := by rw [← h71, List.length_append, List.length_append, List.length_append, HPL.out, HV56.out.len, HV6.out.len, HL.out]
  have hbn7 : 1 ≤ n7 ∧ n7 ≤ 20000 := by omega
  clear hn7
  have HR7 := Lib.hid h73
  have HL7 := Lib.hid h71
  clear h71 h73 hfl
  have hcell : cellB 1 c = (varL c.key) ++ (varL c.total ++ (varL (n : Int) ++ c.loc)) ++ spillB c := by simp [cellB, childB, keyB, loadB, hasC, hasK, HL.out]
  have HCELL := Lib.hid hcell
  clear hcell
  by_cases hs : c.spill = 0
  · have es : (c.spill != 0) = false := by simp [hs]
    have hsp : spillB c = [] := if_pos hs
    have HSP := Lib.hid hsp
    clear hsp hs
    go_wp2
    rw [HR.out]
    exact ⟨_, _, _, rfl, by rw [HCELL.out, HSP.out, List.append_nil]; exact HL7.out, Nat.le_refl _, h72, by rw [HCELL.out, HSP.out, List.append_nil]; exact HR7.out, hB7, BlkA.at HG7.out.1 HG7.out.2⟩
  · have es : (c.spill != 0) = true := by simp [hs]
    have hsp : spillB c = varL c.spill := if_neg hs
    have HSP := Lib.hid hsp
    clear hsp hs
    go_wp2_with fail
    refine (varint_put _ c.spill HC3.out).mono ?_
    rintro e w8 ⟨A8, m8, c8, rfl, hown8, hb8⟩
    have HV8 := Lib.hid hown8
    have hm8 : m8 ≤ 10 := by rw [← hown8.len]; exact varL_ten HC3.out
    have hm8p : 1 ≤ m8 := by rw [← hown8.len]; exact vl_pos _
    have HR8 := Lib.hid (HR7.out.keep hb8)
    have hB8 := hB7.trans (hb8.mono hB7.size)
    clear hown8
    dsimp only
    go_step
    refine wp_append_full rfl (.tmp 53) (.tmp 56) rfl (some ⟨g7, 0, none⟩) n7 n7 _ rfl HL7.out (by omega) (Nat.le_refl _) HR8.out A8 m8 c8 (varL c.spill) rfl HV8.out.len HV8.out.rd (by omega) (by omega) ?_
    intro A9 c9 w9 hown9 hb9
    have HO9 := Lib.hid hown9
    have hB9 := hB8.trans (hb9.mono hB8.size)
    clear hown9 hb9 hb8
    go_wp2
    rw [HR.out]
    exact ⟨_, _, _, rfl, by rw [HCELL.out, HSP.out]; exact HO9.out.len, HO9.out.cap.1, HO9.out.cap.2, by rw [HCELL.out, HSP.out]; exact HO9.out.rd, hB9, HO9.out.blkA hB8.size⟩

set_option maxHeartbeats 8000000 in
theorem cenc_two (w : World) (c : Cl) (A : Option Addr) (n d : Nat) (hc : c.ok) (hnd : n ≤ d) (hd : d ≤ maxLen) (hl : c.loc.length = n) (hA : Rd w A c.loc) (hg : goodC 2 c n) (R : Ending → World → Prop) (hR : R = EncBack w (cellB 2 c) 0) :
    Calls Try.prog 35 #[.int .i64 2, c.val A n d] w R := by
  have HR := Lib.hid hR; clear hR
  have hz : checkZ 2 c n = 0 := if_pos hg
  have HZ := Lib.hid hz; clear hz
  obtain ⟨hc0, hc1, hc2, hc3⟩ := hc
  have HC0 := Lib.hid hc0
  have HC1 := Lib.hid hc1
  have HC2 := Lib.hid hc2
  have HC3 := Lib.hid hc3
  have HL := Lib.hid hl
  have HG := Lib.hid hg
  obtain ⟨W1, hW1⟩ : ∃ W, W = w.alloc (.cells #[.int .i64 c.key, .int .i64 c.child, .int .i64 c.total, .slice A n d, .int .i64 c.spill] 55) := ⟨_, rfl⟩
  have hbW : Below w.heap.size w W1 := by rw [hW1]; exact (Below.refl _ _).alloc (Nat.le_refl _) _
  have hsW : W1.heap.size = w.heap.size + 1 := by rw [hW1]; simp
  have hat : ClAt W1 w.heap.size c A n d := by rw [hW1]; exact ⟨by simp [go_sem], by simp [go_sem], by simp [go_sem], by simp [go_sem], by simp [go_sem]⟩
  have HT := Lib.hid hat; clear hat
  have HA := Lib.hid (hA.keep hbW); clear hA
  have HW := Lib.hid hW1
  unfold Cl.val
  go_enter Try.func35, Try.ntmps35
  go_upto_region 1 with fail
  rw [← hW1]
  clear hW1 HW
  iterate 4 go_step
  refine wp_load_cl rfl _ rfl w.heap.size c A n d rfl HT.out ?_
  go_wp2_with fail
  refine (checkC_any _ 2 c A n d ⟨hc0, hc1, hc2, hc3⟩ (by unfold maxLen at hd; omega)).mono ?_
  rintro e w1 ⟨rfl, hb1⟩
  simp only [HZ.out]
  have hB1 : Below w.heap.size w w1 := hbW.trans (hb1.mono hbW.size)
  have HT1 := Lib.hid (HT.out.keep hb1)
  have HA1 := Lib.hid (HA.out.keep hb1)
  have hz1 := hb1.size
  clear hb1 hc0 hc1 hc2 hc3 hg hl
  go_wp2_with fail
  refine (has_two _).mono ?_
  rintro e w2 ⟨rfl, rfl⟩
  obtain ⟨k0, k1, k2, k3, k4⟩ := HT1.out
  go_wp2_with fail
  refine (varint_put _ c.child HC1.out).mono ?_
  rintro e wxa ⟨Ax, mx, cx, rfl, hownx, hbx⟩
  have HVx := Lib.hid hownx
  have hmx : mx ≤ 10 := by rw [← hownx.len]; exact varL_ten HC1.out
  have hmxp : 1 ≤ mx := by rw [← hownx.len]; exact vl_pos _
  have hB1x : Below w.heap.size w wxa := hB1.trans (hbx.mono hB1.size)
  have hzx := hbx.size
  clear hownx
  dsimp only
  go_step
  refine wp_append rfl (.tmp 26) (.tmp 29) rfl w1.heap.size none 0 0 [] rfl (OwnB.nil _ _) Ax mx cx (varL c.child) rfl HVx.out.len HVx.out.rd (by omega) (by omega) ?_
  intro Dx dx wxb happx _ hbbx
  simp only [List.nil_append, Nat.zero_add] at happx ⊢
  have HPx := Lib.hid happx
  have hBBx : Below w.heap.size w wxb := hB1x.trans (hbbx.mono hB1.size)
  have hb1x : Below w1.heap.size w1 wxb := (hbx).trans hbbx
  have hzzx := hb1x.size
  have HTx := Lib.hid (HT1.out.keep hb1x)
  have HAx := Lib.hid (HA1.out.keep hb1x)
  clear happx hbx hbbx k0 k1 k2 k3 k4
  obtain ⟨k0, k1, k2, k3, k4⟩ := HTx.out
  go_wp2_with fail
  refine (varint_put _ c.key HC0.out).mono ?_
  rintro e wya ⟨Ay, my, cy, rfl, howny, hby⟩
  have HVy := Lib.hid howny
  have hmy : my ≤ 10 := by rw [← howny.len]; exact varL_ten HC0.out
  have hmyp : 1 ≤ my := by rw [← howny.len]; exact vl_pos _
  have hBBxy : Below w.heap.size w wya := hBBx.trans (hby.mono hBBx.size)
  have hzy := hby.size
  have HPxy := Lib.hid (HPx.out.keep hby)
  clear howny
  dsimp only
  go_step
  refine wp_append rfl (.tmp 32) (.tmp 35) rfl w1.heap.size Dx mx dx (varL c.child) rfl HPxy.out Ay my cy (varL c.key) rfl HVy.out.len HVy.out.rd (by omega) (by omega) ?_
  intro Dy dy wyb happy _ hbby
  simp only [List.nil_append, Nat.zero_add] at happy ⊢
  have HPy := Lib.hid happy
  have hBBy : Below w.heap.size w wyb := hBBxy.trans (hbby.mono hB1.size)
  have hb1y : Below w1.heap.size w1 wyb := (hb1x.trans (hby.mono (by omega))).trans hbby
  have hzzy := hb1y.size
  have HTy := Lib.hid (HT1.out.keep hb1y)
  have HAy := Lib.hid (HA1.out.keep hb1y)
  clear happy hby hbby k0 k1 k2 k3 k4
  obtain ⟨k0, k1, k2, k3, k4⟩ := HTy.out
  go_wp2
  rw [HR.out]
  have hcell : cellB 2 c = ((varL c.child) ++ varL c.key) := by simp [cellB, childB, keyB, loadB, hasC, hasK]
  rw [hcell]
  exact ⟨_, _, _, rfl, HPy.out.len, HPy.out.cap.1, HPy.out.cap.2, HPy.out.rd, hBBy, HPy.out.blkA hB1.size⟩

set_option maxHeartbeats 8000000 in
theorem cenc_three (w : World) (c : Cl) (A : Option Addr) (n d : Nat) (hc : c.ok) (hnd : n ≤ d) (hd : d ≤ maxLen) (hl : c.loc.length = n) (hA : Rd w A c.loc) (hg : goodC 3 c n) (R : Ending → World → Prop) (hR : R = EncBack w (cellB 3 c) 0) :
    Calls Try.prog 35 #[.int .i64 3, c.val A n d] w R := by
  have HR := Lib.hid hR; clear hR
  have hz : checkZ 3 c n = 0 := if_pos hg
  have HZ := Lib.hid hz; clear hz
  obtain ⟨hc0, hc1, hc2, hc3⟩ := hc
  have HC0 := Lib.hid hc0
  have HC1 := Lib.hid hc1
  have HC2 := Lib.hid hc2
  have HC3 := Lib.hid hc3
  have HL := Lib.hid hl
  have HG := Lib.hid hg
  obtain ⟨W1, hW1⟩ : ∃ W, W = w.alloc (.cells #[.int .i64 c.key, .int .i64 c.child, .int .i64 c.total, .slice A n d, .int .i64 c.spill] 55) := ⟨_, rfl⟩
  have hbW : Below w.heap.size w W1 := by rw [hW1]; exact (Below.refl _ _).alloc (Nat.le_refl _) _
  have hsW : W1.heap.size = w.heap.size + 1 := by rw [hW1]; simp
  have hat : ClAt W1 w.heap.size c A n d := by rw [hW1]; exact ⟨by simp [go_sem], by simp [go_sem], by simp [go_sem], by simp [go_sem], by simp [go_sem]⟩
  have HT := Lib.hid hat; clear hat
  have HA := Lib.hid (hA.keep hbW); clear hA
  have HW := Lib.hid hW1
  unfold Cl.val
  go_enter Try.func35, Try.ntmps35
  go_upto_region 1 with fail
  rw [← hW1]
  clear hW1 HW
  iterate 4 go_step
  refine wp_load_cl rfl _ rfl w.heap.size c A n d rfl HT.out ?_
  go_wp2_with fail
  refine (checkC_any _ 3 c A n d ⟨hc0, hc1, hc2, hc3⟩ (by unfold maxLen at hd; omega)).mono ?_
  rintro e w1 ⟨rfl, hb1⟩
  simp only [HZ.out]
  have hB1 : Below w.heap.size w w1 := hbW.trans (hb1.mono hbW.size)
  have HT1 := Lib.hid (HT.out.keep hb1)
  have HA1 := Lib.hid (HA.out.keep hb1)
  have hz1 := hb1.size
  clear hb1 hc0 hc1 hc2 hc3 hg hl
  go_wp2_with fail
  refine (has_three _).mono ?_
  rintro e w2 ⟨rfl, rfl⟩
  obtain ⟨k0, k1, k2, k3, k4⟩ := HT1.out
  have hgl := HG.out.2.2.2.2.1 (by decide)
  obtain ⟨gt0, gt1, gn, gs0, gs1⟩ := hgl
  have hnn : n ≤ 16384 := by omega
  have HPR := Lib.hid (show Rd w1 none [] from .inl rfl)
  have HPL := Lib.hid (show ([] : List Int).length = 0 from rfl)
  have HPC := Lib.hid (show 0 ≤ 0 ∧ 0 ≤ maxLen from ⟨Nat.le_refl _, by decide⟩)
  have K2 : ∀ W : World, Below w1.heap.size w1 W → W.cell? ⟨w.heap.size, 2, none⟩ = some (.int .i64 c.total) := fun W hW => (HT1.out.keep hW).2.2.1
  have K3 : ∀ W : World, Below w1.heap.size w1 W → W.cell? ⟨w.heap.size, 3, none⟩ = some (.slice A n d) := fun W hW => (HT1.out.keep hW).2.2.2.1
  go_upto_region 11 with fail
  clear k0 k1 k2 k3 k4
  refine wp_region_held_drew (S := (fun W => Below w1.heap.size w1 W)) (by kernel_rfl) ?_ (fun hHeld => ?_)
  · exact (Below.refl _ w1).drew
  refine' wpAnyH_take (i := 0) (oi := _) (v := _) rfl (by kernel_rfl) (by kernel_rfl) (by kernel_rfl) (fun _ _ _ h => h) (Or.inl ⟨by rfl, ?hy0⟩) (by assumption) ?rest0
  case hy0 => (intro w' hSw; (try dsimp only at hSw); go_simp; try with_reducible rfl)
  try simp only [Act.put, List.setIfInBounds_toArray, List.set_cons_zero, List.set_cons_succ, List.getElem_toArray, List.getElem_cons_zero, List.getElem_cons_succ]
  refine' wpAnyH_take (i := 1) (oi := _) (v := _) rfl (by kernel_rfl) (by kernel_rfl) (by kernel_rfl) (fun _ _ _ h => h) (Or.inl ⟨by rfl, ?hy1⟩) (by assumption) ?rest1
  case hy1 => (intro w' hSw; (try dsimp only at hSw); go_simp; try with_reducible rfl)
  try simp only [Act.put, List.setIfInBounds_toArray, List.set_cons_zero, List.set_cons_succ, List.getElem_toArray, List.getElem_cons_zero, List.getElem_cons_succ]
  refine' wpAnyH_take (i := 2) (oi := _) (v := _) rfl (by kernel_rfl) (by kernel_rfl) (by kernel_rfl) (fun _ _ _ h => h) (Or.inl ⟨by rfl, ?hy2⟩) (by assumption) ?rest2
  case hy2 => (intro w' hSw; (try dsimp only at hSw); go_simp; try with_reducible rfl)
  try simp only [Act.put, List.setIfInBounds_toArray, List.set_cons_zero, List.set_cons_succ, List.getElem_toArray, List.getElem_cons_zero, List.getElem_cons_succ]
  refine' wpAnyH_take (i := 4) (oi := _) (v := _) rfl (by kernel_rfl) (by kernel_rfl) (by kernel_rfl) (fun _ _ _ h => h) (Or.inl ⟨by rfl, ?hy4⟩) (by assumption) ?rest4
  case hy4 => (intro w' hSw; (try dsimp only at hSw); go_simp; try with_reducible rfl)
  try simp only [Act.put, List.setIfInBounds_toArray, List.set_cons_zero, List.set_cons_succ, List.getElem_toArray, List.getElem_cons_zero, List.getElem_cons_succ]
  refine' wpAnyH_take (i := 5) (oi := _) (v := _) rfl (by kernel_rfl) (by kernel_rfl) (by kernel_rfl) (fun _ _ _ h => h) (Or.inl ⟨by rfl, ?hy5⟩) (by assumption) ?rest5
  case hy5 => (intro w' hSw; (try dsimp only at hSw); go_simp; try with_reducible rfl)
  try simp only [Act.put, List.setIfInBounds_toArray, List.set_cons_zero, List.set_cons_succ, List.getElem_toArray, List.getElem_cons_zero, List.getElem_cons_succ]
  refine' wpAnyH_take (i := 6) (oi := _) (v := _) rfl (by kernel_rfl) (by kernel_rfl) (by kernel_rfl) (fun _ _ _ h => h) (Or.inl ⟨by rfl, ?hy6⟩) (by assumption) ?rest6
  case hy6 => (intro w' hSw; (try dsimp only at hSw); go_simp; try with_reducible rfl)
  try simp only [Act.put, List.setIfInBounds_toArray, List.set_cons_zero, List.set_cons_succ, List.getElem_toArray, List.getElem_cons_zero, List.getElem_cons_succ]
  refine' wpAnyH_take (i := 8) (oi := _) (v := _) rfl (by kernel_rfl) (by kernel_rfl) (by kernel_rfl) (fun _ _ _ h => h) (Or.inl ⟨by rfl, ?hy8⟩) (by assumption) ?rest8
  case hy8 => (intro w' hSw; (try dsimp only at hSw); go_simp; try with_reducible rfl)
  try simp only [Act.put, List.setIfInBounds_toArray, List.set_cons_zero, List.set_cons_succ, List.getElem_toArray, List.getElem_cons_zero, List.getElem_cons_succ]
  refine' wpAnyH_take (i := 9) (oi := _) (v := _) rfl (by kernel_rfl) (by kernel_rfl) (by kernel_rfl) (fun _ _ _ h => h) (Or.inl ⟨by rfl, ?hy9⟩) (by assumption) ?rest9
  case hy9 => (intro w' hSw; (try dsimp only at hSw); go_simp; try with_reducible rfl)
  try simp only [Act.put, List.setIfInBounds_toArray, List.set_cons_zero, List.set_cons_succ, List.getElem_toArray, List.getElem_cons_zero, List.getElem_cons_succ]
  refine wpAnyH_ready (rs := [3]) (by kernel_rfl) (by simp) ?_
  refine AllReadyH.cons (o := _) rfl (fun K hK => ?_) AllReadyH.nil
  go_simp
  go_at_call 84
  refine (varint_put _ c.total HC2.out).mono ?_
  rintro e w5 ⟨A5, m5, c5, rfl, hown5, hb5⟩
  have hb5' : Below w1.heap.size w1 w5 := ((Below.refl _ w1).drew).trans hb5
  have HV5 := Lib.hid hown5
  have hm5 : m5 ≤ 10 := by rw [← hown5.len]; exact varL_ten HC2.out
  have hm5p : 1 ≤ m5 := by rw [← hown5.len]; exact vl_pos _
  clear hown5 hb5
  refine hK.out _ _ ?_ (fun hHeld => ?_)
  · exact hb5'
  clear hK K
  try simp only [Act.put, List.setIfInBounds_toArray, List.set_cons_zero, List.set_cons_succ, List.getElem_toArray, List.getElem_cons_zero, List.getElem_cons_succ]
  refine wpAnyH_ready (rs := [7]) (by kernel_rfl) (by simp) ?_
  refine AllReadyH.cons (o := _) rfl (fun K hK => ?_) AllReadyH.nil
  go_simp
  go_at_call 84
  refine (varint_put _ (n : Int) (by omega)).mono ?_
  rintro e w6 ⟨A6, m6, c6, rfl, hown6, hb6⟩
  have hb6' : Below w1.heap.size w1 w6 := hb5'.trans (hb6.mono hb5'.size)
  have HV6 := Lib.hid hown6
  have HV56 := Lib.hid (HV5.out.keep hb6)
  have hm6 : m6 ≤ 10 := by rw [← hown6.len]; exact varL_ten (by omega)
  clear hown6 hb6
  refine hK.out _ _ ?_ (fun hHeld => ?_)
  · exact hb6'
  clear hK K
  try simp only [Act.put, List.setIfInBounds_toArray, List.set_cons_zero, List.set_cons_succ, List.getElem_toArray, List.getElem_cons_zero, List.getElem_cons_succ]
  refine wpAnyH_ready (rs := [10]) (by kernel_rfl) (by simp) ?_
  refine AllReadyH.cons (o := _) rfl (fun K hK => ?_) AllReadyH.nil
  go_simp
  refine hK.out _ _ ?_ (fun hHeld => ?_)
  · exact hb6'.alloc hb6'.size _
  clear hK K
  try simp only [Act.put, List.setIfInBounds_toArray, List.set_cons_zero, List.set_cons_succ, List.getElem_toArray, List.getElem_cons_zero, List.getElem_cons_succ]
  refine wpAnyH_ready (rs := [11]) (by kernel_rfl) (by simp) ?_
  refine AllReadyH.cons (o := _) rfl (fun K hK => ?_) AllReadyH.nil
  go_simp
  go_at_call 85
  refine (join_any _ _ 4 4 [[], varL c.total, varL (n : Int), c.loc] rfl (by decide) (Nat.le_refl _) (by decide) (rows4 _ _ HPL.out HPC.out.1 HPC.out.2 (HPR.out.keep hb6') HV56.out.len HV56.out.cap.1 HV56.out.cap.2 HV56.out.rd HV6.out.len HV6.out.cap.1 HV6.out.cap.2 HV6.out.rd HL.out hnd hd (HA1.out.keep hb6')) (by simp only [List.flatten_cons, List.flatten_nil, List.length_append, List.length_nil, HPL.out, HV56.out.len, HV6.out.len, HL.out]; omega)).mono ?_
  rintro e w7 hf
  obtain ⟨g7, n7, rfl, h71, h72, h73, h74, h75, h76⟩ := fresh_rd hf
  have HG7 := Lib.hid (show w.heap.size ≤ g7 ∧ g7 < w7.heap.size from ⟨by have := hb6'.size; have := hB1.size; simp at h75; omega, h76⟩)
  have hb7' : Below w1.heap.size w1 w7 := (hb6'.alloc hb6'.size _).trans (h74.mono (by simp; have := hb6'.size; omega))
  clear hf h74 h75 h76
  refine hK.out _ _ ?_ (fun hHeld => ?_)
  · exact hb7'
  clear hK K
  try simp only [Act.put, List.setIfInBounds_toArray, List.set_cons_zero, List.set_cons_succ, List.getElem_toArray, List.getElem_cons_zero, List.getElem_cons_succ]
  refine' wpAnyH_take (i := 12) (oi := _) (v := _) rfl (by kernel_rfl) (by kernel_rfl) (by kernel_rfl) (fun _ _ _ h => h) (Or.inl ⟨by rfl, ?hy12⟩) (by assumption) ?rest12
  case hy12 => (intro w' hSw; (try dsimp only at hSw); go_simp; try with_reducible rfl)
  try simp only [Act.put, List.setIfInBounds_toArray, List.set_cons_zero, List.set_cons_succ, List.getElem_toArray, List.getElem_cons_zero, List.getElem_cons_succ]
  refine wpAnyH_done (by kernel_rfl) ?_ _
  have hB7 : Below w.heap.size w w7 := hB1.trans (hb7'.mono hB1.size)
  obtain ⟨k0, k1, k2, k3, k4⟩ := HT1.out.keep hb7'
  have hfl : [[], varL c.total, varL (n : Int), c.loc].flatten = [] ++ (varL c.total ++ (varL (n : Int) ++ c.loc)) := by simp
  rw [hfl] at h71 h73
  have hn7 : n7 = 0 + (m5 + (m6 + n)) := by rw [← h71, List.length_append, List.length_append, List.length_append, HPL.out, HV56.out.len, HV6.out.len, HL.out]
  have hbn7 : 1 ≤ n7 ∧ n7 ≤ 20000 := by omega
  clear hn7
  have HR7 := Lib.hid h73
  have HL7 := Lib.hid h71
  clear h71 h73 hfl
  have hcell : cellB 3 c = [] ++ (varL c.total ++ (varL (n : Int) ++ c.loc)) ++ spillB c := by simp [cellB, childB, keyB, loadB, hasC, hasK, HL.out]
  have HCELL := Lib.hid hcell
  clear hcell
  by_cases hs : c.spill = 0
  · have es : (c.spill != 0) = false := by simp [hs]
    have hsp : spillB c = [] := if_pos hs
    have HSP := Lib.hid hsp
    clear hsp hs
    go_wp2
    rw [HR.out]
    exact ⟨_, _, _, rfl, by rw [HCELL.out, HSP.out, List.append_nil]; exact HL7.out, Nat.le_refl _, h72, by rw [HCELL.out, HSP.out, List.append_nil]; exact HR7.out, hB7, BlkA.at HG7.out.1 HG7.out.2⟩
  · have es : (c.spill != 0) = true := by simp [hs]
    have hsp : spillB c = varL c.spill := if_neg hs
    have HSP := Lib.hid hsp
    clear hsp hs
    go_wp2_with fail
    refine (varint_put _ c.spill HC3.out).mono ?_
    rintro e w8 ⟨A8, m8, c8, rfl, hown8, hb8⟩
    have HV8 := Lib.hid hown8
    have hm8 : m8 ≤ 10 := by rw [← hown8.len]; exact varL_ten HC3.out
    have hm8p : 1 ≤ m8 := by rw [← hown8.len]; exact vl_pos _
    have HR8 := Lib.hid (HR7.out.keep hb8)
    have hB8 := hB7.trans (hb8.mono hB7.size)
    clear hown8
    dsimp only
    go_step
    refine wp_append_full rfl (.tmp 53) (.tmp 56) rfl (some ⟨g7, 0, none⟩) n7 n7 _ rfl HL7.out (by omega) (Nat.le_refl _) HR8.out A8 m8 c8 (varL c.spill) rfl HV8.out.len HV8.out.rd (by omega) (by omega) ?_
    intro A9 c9 w9 hown9 hb9
    have HO9 := Lib.hid hown9
    have hB9 := hB8.trans (hb9.mono hB8.size)
    clear hown9 hb9 hb8
    go_wp2
    rw [HR.out]
    exact ⟨_, _, _, rfl, by rw [HCELL.out, HSP.out]; exact HO9.out.len, HO9.out.cap.1, HO9.out.cap.2, by rw [HCELL.out, HSP.out]; exact HO9.out.rd, hB9, HO9.out.blkA hB8.size⟩

set_option maxHeartbeats 8000000 in
theorem cenc_four (w : World) (c : Cl) (A : Option Addr) (n d : Nat) (hc : c.ok) (hnd : n ≤ d) (hd : d ≤ maxLen) (hl : c.loc.length = n) (hA : Rd w A c.loc) (hg : goodC 4 c n) (R : Ending → World → Prop) (hR : R = EncBack w (cellB 4 c) 0) :
    Calls Try.prog 35 #[.int .i64 4, c.val A n d] w R := by
  have HR := Lib.hid hR; clear hR
  have hz : checkZ 4 c n = 0 := if_pos hg
  have HZ := Lib.hid hz; clear hz
  obtain ⟨hc0, hc1, hc2, hc3⟩ := hc
  have HC0 := Lib.hid hc0
  have HC1 := Lib.hid hc1
  have HC2 := Lib.hid hc2
  have HC3 := Lib.hid hc3
  have HL := Lib.hid hl
  have HG := Lib.hid hg
  obtain ⟨W1, hW1⟩ : ∃ W, W = w.alloc (.cells #[.int .i64 c.key, .int .i64 c.child, .int .i64 c.total, .slice A n d, .int .i64 c.spill] 55) := ⟨_, rfl⟩
  have hbW : Below w.heap.size w W1 := by rw [hW1]; exact (Below.refl _ _).alloc (Nat.le_refl _) _
  have hsW : W1.heap.size = w.heap.size + 1 := by rw [hW1]; simp
  have hat : ClAt W1 w.heap.size c A n d := by rw [hW1]; exact ⟨by simp [go_sem], by simp [go_sem], by simp [go_sem], by simp [go_sem], by simp [go_sem]⟩
  have HT := Lib.hid hat; clear hat
  have HA := Lib.hid (hA.keep hbW); clear hA
  have HW := Lib.hid hW1
  unfold Cl.val
  go_enter Try.func35, Try.ntmps35
  go_upto_region 1 with fail
  rw [← hW1]
  clear hW1 HW
  iterate 4 go_step
  refine wp_load_cl rfl _ rfl w.heap.size c A n d rfl HT.out ?_
  go_wp2_with fail
  refine (checkC_any _ 4 c A n d ⟨hc0, hc1, hc2, hc3⟩ (by unfold maxLen at hd; omega)).mono ?_
  rintro e w1 ⟨rfl, hb1⟩
  simp only [HZ.out]
  have hB1 : Below w.heap.size w w1 := hbW.trans (hb1.mono hbW.size)
  have HT1 := Lib.hid (HT.out.keep hb1)
  have HA1 := Lib.hid (HA.out.keep hb1)
  have hz1 := hb1.size
  clear hb1 hc0 hc1 hc2 hc3 hg hl
  go_wp2_with fail
  refine (has_four _).mono ?_
  rintro e w2 ⟨rfl, rfl⟩
  obtain ⟨k0, k1, k2, k3, k4⟩ := HT1.out
  go_wp2_with fail
  refine (varint_put _ c.child HC1.out).mono ?_
  rintro e wxa ⟨Ax, mx, cx, rfl, hownx, hbx⟩
  have HVx := Lib.hid hownx
  have hmx : mx ≤ 10 := by rw [← hownx.len]; exact varL_ten HC1.out
  have hmxp : 1 ≤ mx := by rw [← hownx.len]; exact vl_pos _
  have hB1x : Below w.heap.size w wxa := hB1.trans (hbx.mono hB1.size)
  have hzx := hbx.size
  clear hownx
  dsimp only
  go_step
  refine wp_append rfl (.tmp 26) (.tmp 29) rfl w1.heap.size none 0 0 [] rfl (OwnB.nil _ _) Ax mx cx (varL c.child) rfl HVx.out.len HVx.out.rd (by omega) (by omega) ?_
  intro Dx dx wxb happx _ hbbx
  simp only [List.nil_append, Nat.zero_add] at happx ⊢
  have HPx := Lib.hid happx
  have hBBx : Below w.heap.size w wxb := hB1x.trans (hbbx.mono hB1.size)
  have hb1x : Below w1.heap.size w1 wxb := (hbx).trans hbbx
  have hzzx := hb1x.size
  have HTx := Lib.hid (HT1.out.keep hb1x)
  have HAx := Lib.hid (HA1.out.keep hb1x)
  clear happx hbx hbbx k0 k1 k2 k3 k4
  obtain ⟨k0, k1, k2, k3, k4⟩ := HTx.out
  have hgl := HG.out.2.2.2.2.1 (by decide)
  obtain ⟨gt0, gt1, gn, gs0, gs1⟩ := hgl
  have hnn : n ≤ 16384 := by omega
  have HPR := Lib.hid (show Rd wxb Dx (varL c.child) from HPx.out.rd)
  have HPL := Lib.hid (show ((varL c.child) : List Int).length = mx from HPx.out.len)
  have HPC := Lib.hid (show mx ≤ dx ∧ dx ≤ maxLen from HPx.out.cap)
  have K2 : ∀ W : World, Below wxb.heap.size wxb W → W.cell? ⟨w.heap.size, 2, none⟩ = some (.int .i64 c.total) := fun W hW => (HTx.out.keep hW).2.2.1
  have K3 : ∀ W : World, Below wxb.heap.size wxb W → W.cell? ⟨w.heap.size, 3, none⟩ = some (.slice A n d) := fun W hW => (HTx.out.keep hW).2.2.2.1
  go_upto_region 11 with fail
  clear k0 k1 k2 k3 k4
  refine wp_region_held_drew (S := (fun W => Below wxb.heap.size wxb W)) (by kernel_rfl) ?_ (fun hHeld => ?_)
  · exact (Below.refl _ wxb).drew
  refine' wpAnyH_take (i := 0) (oi := _) (v := _) rfl (by kernel_rfl) (by kernel_rfl) (by kernel_rfl) (fun _ _ _ h => h) (Or.inl ⟨by rfl, ?hy0⟩) (by assumption) ?rest0
  case hy0 => (intro w' hSw; (try dsimp only at hSw); go_simp; try with_reducible rfl)
  try simp only [Act.put, List.setIfInBounds_toArray, List.set_cons_zero, List.set_cons_succ, List.getElem_toArray, List.getElem_cons_zero, List.getElem_cons_succ]
  refine' wpAnyH_take (i := 1) (oi := _) (v := _) rfl (by kernel_rfl) (by kernel_rfl) (by kernel_rfl) (fun _ _ _ h => h) (Or.inl ⟨by rfl, ?hy1⟩) (by assumption) ?rest1
  case hy1 => (intro w' hSw; (try dsimp only at hSw); go_simp; try with_reducible rfl)
  try simp only [Act.put, List.setIfInBounds_toArray, List.set_cons_zero, List.set_cons_succ, List.getElem_toArray, List.getElem_cons_zero, List.getElem_cons_succ]
  refine' wpAnyH_take (i := 2) (oi := _) (v := _) rfl (by kernel_rfl) (by kernel_rfl) (by kernel_rfl) (fun _ _ _ h => h) (Or.inl ⟨by rfl, ?hy2⟩) (by assumption) ?rest2
  case hy2 => (intro w' hSw; (try dsimp only at hSw); go_simp; try with_reducible rfl)
  try simp only [Act.put, List.setIfInBounds_toArray, List.set_cons_zero, List.set_cons_succ, List.getElem_toArray, List.getElem_cons_zero, List.getElem_cons_succ]
  refine' wpAnyH_take (i := 4) (oi := _) (v := _) rfl (by kernel_rfl) (by kernel_rfl) (by kernel_rfl) (fun _ _ _ h => h) (Or.inl ⟨by rfl, ?hy4⟩) (by assumption) ?rest4
  case hy4 => (intro w' hSw; (try dsimp only at hSw); go_simp; try with_reducible rfl)
  try simp only [Act.put, List.setIfInBounds_toArray, List.set_cons_zero, List.set_cons_succ, List.getElem_toArray, List.getElem_cons_zero, List.getElem_cons_succ]
  refine' wpAnyH_take (i := 5) (oi := _) (v := _) rfl (by kernel_rfl) (by kernel_rfl) (by kernel_rfl) (fun _ _ _ h => h) (Or.inl ⟨by rfl, ?hy5⟩) (by assumption) ?rest5
  case hy5 => (intro w' hSw; (try dsimp only at hSw); go_simp; try with_reducible rfl)
  try simp only [Act.put, List.setIfInBounds_toArray, List.set_cons_zero, List.set_cons_succ, List.getElem_toArray, List.getElem_cons_zero, List.getElem_cons_succ]
  refine' wpAnyH_take (i := 6) (oi := _) (v := _) rfl (by kernel_rfl) (by kernel_rfl) (by kernel_rfl) (fun _ _ _ h => h) (Or.inl ⟨by rfl, ?hy6⟩) (by assumption) ?rest6
  case hy6 => (intro w' hSw; (try dsimp only at hSw); go_simp; try with_reducible rfl)
  try simp only [Act.put, List.setIfInBounds_toArray, List.set_cons_zero, List.set_cons_succ, List.getElem_toArray, List.getElem_cons_zero, List.getElem_cons_succ]
  refine' wpAnyH_take (i := 8) (oi := _) (v := _) rfl (by kernel_rfl) (by kernel_rfl) (by kernel_rfl) (fun _ _ _ h => h) (Or.inl ⟨by rfl, ?hy8⟩) (by assumption) ?rest8
  case hy8 => (intro w' hSw; (try dsimp only at hSw); go_simp; try with_reducible rfl)
  try simp only [Act.put, List.setIfInBounds_toArray, List.set_cons_zero, List.set_cons_succ, List.getElem_toArray, List.getElem_cons_zero, List.getElem_cons_succ]
  refine' wpAnyH_take (i := 9) (oi := _) (v := _) rfl (by kernel_rfl) (by kernel_rfl) (by kernel_rfl) (fun _ _ _ h => h) (Or.inl ⟨by rfl, ?hy9⟩) (by assumption) ?rest9
  case hy9 => (intro w' hSw; (try dsimp only at hSw); go_simp; try with_reducible rfl)
  try simp only [Act.put, List.setIfInBounds_toArray, List.set_cons_zero, List.set_cons_succ, List.getElem_toArray, List.getElem_cons_zero, List.getElem_cons_succ]
  refine wpAnyH_ready (rs := [3]) (by kernel_rfl) (by simp) ?_
  refine AllReadyH.cons (o := _) rfl (fun K hK => ?_) AllReadyH.nil
  go_simp
  go_at_call 84
  refine (varint_put _ c.total HC2.out).mono ?_
  rintro e w5 ⟨A5, m5, c5, rfl, hown5, hb5⟩
  have hb5' : Below wxb.heap.size wxb w5 := ((Below.refl _ wxb).drew).trans hb5
  have HV5 := Lib.hid hown5
  have hm5 : m5 ≤ 10 := by rw [← hown5.len]; exact varL_ten HC2.out
  have hm5p : 1 ≤ m5 := by rw [← hown5.len]; exact vl_pos _
  clear hown5 hb5
  refine hK.out _ _ ?_ (fun hHeld => ?_)
  · exact hb5'
  clear hK K
  try simp only [Act.put, List.setIfInBounds_toArray, List.set_cons_zero, List.set_cons_succ, List.getElem_toArray, List.getElem_cons_zero, List.getElem_cons_succ]
  refine wpAnyH_ready (rs := [7]) (by kernel_rfl) (by simp) ?_
  refine AllReadyH.cons (o := _) rfl (fun K hK => ?_) AllReadyH.nil
  go_simp
  go_at_call 84
  refine (varint_put _ (n : Int) (by omega)).mono ?_
  rintro e w6 ⟨A6, m6, c6, rfl, hown6, hb6⟩
  have hb6' : Below wxb.heap.size wxb w6 := hb5'.trans (hb6.mono hb5'.size)
  have HV6 := Lib.hid hown6
  have HV56 := Lib.hid (HV5.out.keep hb6)
  have hm6 : m6 ≤ 10 := by rw [← hown6.len]; exact varL_ten (by omega)
  clear hown6 hb6
  refine hK.out _ _ ?_ (fun hHeld => ?_)
  · exact hb6'
  clear hK K
  try simp only [Act.put, List.setIfInBounds_toArray, List.set_cons_zero, List.set_cons_succ, List.getElem_toArray, List.getElem_cons_zero, List.getElem_cons_succ]
  refine wpAnyH_ready (rs := [10]) (by kernel_rfl) (by simp) ?_
  refine AllReadyH.cons (o := _) rfl (fun K hK => ?_) AllReadyH.nil
  go_simp
  refine hK.out _ _ ?_ (fun hHeld => ?_)
  · exact hb6'.alloc hb6'.size _
  clear hK K
  try simp only [Act.put, List.setIfInBounds_toArray, List.set_cons_zero, List.set_cons_succ, List.getElem_toArray, List.getElem_cons_zero, List.getElem_cons_succ]
  refine wpAnyH_ready (rs := [11]) (by kernel_rfl) (by simp) ?_
  refine AllReadyH.cons (o := _) rfl (fun K hK => ?_) AllReadyH.nil
  go_simp
  go_at_call 85
  refine (join_any _ _ 4 4 [(varL c.child), varL c.total, varL (n : Int), c.loc] rfl (by decide) (Nat.le_refl _) (by decide) (rows4 _ _ HPL.out HPC.out.1 HPC.out.2 (HPR.out.keep hb6') HV56.out.len HV56.out.cap.1 HV56.out.cap.2 HV56.out.rd HV6.out.len HV6.out.cap.1 HV6.out.cap.2 HV6.out.rd HL.out hnd hd (HAx.out.keep hb6')) (by simp only [List.flatten_cons, List.flatten_nil, List.length_append, List.length_nil, HPL.out, HV56.out.len, HV6.out.len, HL.out]; omega)).mono ?_
  rintro e w7 hf
  obtain ⟨g7, n7, rfl, h71, h72, h73, h74, h75, h76⟩ := fresh_rd hf
  have HG7 := Lib.hid (show w.heap.size ≤ g7 ∧ g7 < w7.heap.size from ⟨by have := hb6'.size; have := hBBx.size; simp at h75; omega, h76⟩)
  have hb7' : Below wxb.heap.size wxb w7 := (hb6'.alloc hb6'.size _).trans (h74.mono (by simp; have := hb6'.size; omega))
  clear hf h74 h75 h76
  refine hK.out _ _ ?_ (fun hHeld => ?_)
  · exact hb7'
  clear hK K
  try simp only [Act.put, List.setIfInBounds_toArray, List.set_cons_zero, List.set_cons_succ, List.getElem_toArray, List.getElem_cons_zero, List.getElem_cons_succ]
  refine' wpAnyH_take (i := 12) (oi := _) (v := _) rfl (by kernel_rfl) (by kernel_rfl) (by kernel_rfl) (fun _ _ _ h => h) (Or.inl ⟨by rfl, ?hy12⟩) (by assumption) ?rest12
  case hy12 => (intro w' hSw; (try dsimp only at hSw); go_simp; try with_reducible rfl)
  try simp only [Act.put, List.setIfInBounds_toArray, List.set_cons_zero, List.set_cons_succ, List.getElem_toArray, List.getElem_cons_zero, List.getElem_cons_succ]
  refine wpAnyH_done (by kernel_rfl) ?_ _
  have hB7 : Below w.heap.size w w7 := hBBx.trans (hb7'.mono hBBx.size)
  obtain ⟨k0, k1, k2, k3, k4⟩ := HTx.out.keep hb7'
  have hfl : [(varL c.child), varL c.total, varL (n : Int), c.loc].flatten = (varL c.child) ++ (varL c.total ++ (varL (n : Int) ++ c.loc)) := by simp
  rw [hfl] at h71 h73
  have hn7 : n7 = mx + (m5 + (m6 + n)) := by rw [← h71, List.length_append, List.length_append, List.length_append, HPL.out, HV56.out.len, HV6.out.len, HL.out]
  have hbn7 : 1 ≤ n7 ∧ n7 ≤ 20000 := by omega
  clear hn7
  have HR7 := Lib.hid h73
  have HL7 := Lib.hid h71
  clear h71 h73 hfl
  have hcell : cellB 4 c = (varL c.child) ++ (varL c.total ++ (varL (n : Int) ++ c.loc)) ++ spillB c := by simp [cellB, childB, keyB, loadB, hasC, hasK, HL.out]
  have HCELL := Lib.hid hcell
  clear hcell
  by_cases hs : c.spill = 0
  · have es : (c.spill != 0) = false := by simp [hs]
    have hsp : spillB c = [] := if_pos hs
    have HSP := Lib.hid hsp
    clear hsp hs
    go_wp2
    rw [HR.out]
    exact ⟨_, _, _, rfl, by rw [HCELL.out, HSP.out, List.append_nil]; exact HL7.out, Nat.le_refl _, h72, by rw [HCELL.out, HSP.out, List.append_nil]; exact HR7.out, hB7, BlkA.at HG7.out.1 HG7.out.2⟩
  · have es : (c.spill != 0) = true := by simp [hs]
    have hsp : spillB c = varL c.spill := if_neg hs
    have HSP := Lib.hid hsp
    clear hsp hs
    go_wp2_with fail
    refine (varint_put _ c.spill HC3.out).mono ?_
    rintro e w8 ⟨A8, m8, c8, rfl, hown8, hb8⟩
    have HV8 := Lib.hid hown8
    have hm8 : m8 ≤ 10 := by rw [← hown8.len]; exact varL_ten HC3.out
    have hm8p : 1 ≤ m8 := by rw [← hown8.len]; exact vl_pos _
    have HR8 := Lib.hid (HR7.out.keep hb8)
    have hB8 := hB7.trans (hb8.mono hB7.size)
    clear hown8
    dsimp only
    go_step
    refine wp_append_full rfl (.tmp 53) (.tmp 56) rfl (some ⟨g7, 0, none⟩) n7 n7 _ rfl HL7.out (by omega) (Nat.le_refl _) HR8.out A8 m8 c8 (varL c.spill) rfl HV8.out.len HV8.out.rd (by omega) (by omega) ?_
    intro A9 c9 w9 hown9 hb9
    have HO9 := Lib.hid hown9
    have hB9 := hB8.trans (hb9.mono hB8.size)
    clear hown9 hb9 hb8
    go_wp2
    rw [HR.out]
    exact ⟨_, _, _, rfl, by rw [HCELL.out, HSP.out]; exact HO9.out.len, HO9.out.cap.1, HO9.out.cap.2, by rw [HCELL.out, HSP.out]; exact HO9.out.rd, hB9, HO9.out.blkA hB8.size⟩

theorem cencC_any (w : World) (k : Int) (c : Cl) (A : Option Addr) (n d : Nat) (hc : c.ok) (hnd : n ≤ d) (hd : d ≤ maxLen) (hl : c.loc.length = n) (hA : Rd w A c.loc) :
    Calls Try.prog 35 #[.int .i64 k, c.val A n d] w (EncBack w (encC k c) (checkZ k c n)) := by
  by_cases hg : goodC k c n
  · rw [show encC k c = cellB k c from if_pos (by rw [hl]; exact hg), show checkZ k c n = 0 from if_pos hg]
    have := hg.1
    unfold isK at this
    rcases (by omega : k = 1 ∨ k = 2 ∨ k = 3 ∨ k = 4) with rfl | rfl | rfl | rfl
    · exact cenc_one w c A n d hc hnd hd hl hA hg _ rfl
    · exact cenc_two w c A n d hc hnd hd hl hA hg _ rfl
    · exact cenc_three w c A n d hc hnd hd hl hA hg _ rfl
    · exact cenc_four w c A n d hc hnd hd hl hA hg _ rfl
  · exact cenc_no w k c A n d hc (by unfold maxLen at hd; omega) hl hg _ rfl

set_option maxHeartbeats 4000000 in
theorem csizeC_any (w : World) (k : Int) (c : Cl) (A : Option Addr) (n d : Nat) (hc : c.ok) (hnd : n ≤ d) (hd : d ≤ maxLen) (hl : c.loc.length = n) (hA : Rd w A c.loc) (R : Ending → World → Prop) (hR : R = fun e w' => e = .returned (.int .i64 (((encC k c).length : Nat) : Int)) ∧ Below w.heap.size w w') :
    Calls Try.prog 38 #[.int .i64 k, c.val A n d] w R := by
  have HR := Lib.hid hR; clear hR
  obtain ⟨W1, hW1⟩ : ∃ W, W = w.alloc (.cells #[.int .i64 c.key, .int .i64 c.child, .int .i64 c.total, .slice A n d, .int .i64 c.spill] 55) := ⟨_, rfl⟩
  have hbW : Below w.heap.size w W1 := by rw [hW1]; exact (Below.refl _ _).alloc (Nat.le_refl _) _
  have hat : ClAt W1 w.heap.size c A n d := by rw [hW1]; exact ⟨by simp [go_sem], by simp [go_sem], by simp [go_sem], by simp [go_sem], by simp [go_sem]⟩
  have HT := Lib.hid hat; clear hat
  have HA := Lib.hid (hA.keep hbW); clear hA
  have HW := Lib.hid hW1
  unfold Cl.val
  go_enter Try.func38, Try.ntmps38
  go_upto_region 1 with fail
  rw [← hW1]
  clear hW1 HW
  iterate 4 go_step
  refine wp_load_cl rfl _ rfl w.heap.size c A n d rfl HT.out ?_
  go_wp2_with fail
  refine (cencC_any _ k c A n d hc hnd hd hl HA.out).mono ?_
  rintro e w1 ⟨A1, n1, c1, rfl, h1, h2, h3, h4, hb1, _⟩
  have hB1 : Below w.heap.size w w1 := hbW.trans (hb1.mono hbW.size)
  have HL := Lib.hid h1
  clear hb1 h1 h4
  go_wp2
  rw [HR.out]
  exact ⟨by rw [HL.out]; rfl, hB1⟩
end
end Go.Proofs.Ytoeaffmlolapnaa
