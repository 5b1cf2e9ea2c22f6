/- Walk: jour.Scan on too few bytes, and on a journal's bare beginning. -/
import Derived.Test.YtlehpgokjppccaaJrE
import Derived.WalkMore
namespace Go.Proofs.Ytlehpgokjppccaa
open Go.RowKit
set_option maxRecDepth 100000

theorem results_tmp4 {fn : Func} {t u v x : Tmp} (h : fn.results = #[.tmp t, .tmp u, .tmp v, .tmp x]) (tmps : Array Value) (P : Program) (w : World) :
    (results fn tmps).run P w = .ok (.tuple #[tmps.getD t undef, tmps.getD u undef, tmps.getD v undef, tmps.getD x undef]) w := by
  simp [results, h]

theorem scan_short (w : World) (A : Option Addr) (n c : Nat) (hs : n < 28) :
    Calls Try.prog 22 #[.slice A n c] w fun e w' => e = .returned (.tuple #[.int .i64 0, .int .i64 0, .slice none 0 0, .int .i64 6]) ∧ w = w' := by
  go_enter Try.func22, Try.ntmps22
  go_wp2
  go_step3
  go_wp2
  rw [Exit.noGoto_ret]
  go_step
  refine bodyPost_ret (results_tmp4 rfl _ _ _) rfl ?_
  exact ⟨rfl, rfl⟩

theorem jsign_const : (strOfNums jsign).toList = ([116, 111, 109, 101, 32, 106, 110, 108] : List UInt8) := by decide +kernel
def S0 : List Int := startH 256 0 0
theorem S0_length : S0.length = 28 := startH_length _ _ _
theorem S0_isB : IsB S0 := startH_isB _ _ _
theorem S0_form : S0 = jsign ++ (fxL 256 4 ++ (fxL 0 4 ++ (fxL 0 8 ++ fxL (sumI (startB 256 0 0)) 4))) := by simp [S0, startH, startB]
theorem S0_sign : S0.take 8 = jsign := by rw [S0_form]; exact List.take_left' rfl
theorem read_at (l : List Int) (p k : Nat) (v : Int) (hp : p + k ≤ l.length) (h1 : 1 ≤ k) (h8 : k ≤ 8) (h : beI ((l.drop p).take k) = v) : readL l (p : Int) (k : Int) = (v, 0) := by
  rw [readL_ok h1 h8 hp, h]
theorem S0_n : readL S0 8 4 = (256, 0) := read_at S0 8 4 256 (by rw [S0_length]; decide) (by decide) (by decide) (by
  rw [S0_form, List.drop_left' (by rfl : jsign.length = 8), List.take_left' (fxL_length _ _)]; decide)
theorem S0_k : readL S0 12 4 = (0, 0) := read_at S0 12 4 0 (by rw [S0_length]; decide) (by decide) (by decide) (by
  rw [S0_form, show (12 : Nat) = 8 + 4 from rfl, ← List.drop_drop, List.drop_left' (by rfl : jsign.length = 8), List.drop_left' (fxL_length _ _), List.take_left' (fxL_length _ _)]; decide)
theorem S0_c : readL S0 16 8 = (0, 0) := read_at S0 16 8 0 (by rw [S0_length]; decide) (by decide) (by decide) (by
  rw [S0_form, show (16 : Nat) = 8 + (4 + 4) from rfl, ← List.drop_drop, ← List.drop_drop, List.drop_left' (by rfl : jsign.length = 8), List.drop_left' (fxL_length _ _), List.drop_left' (fxL_length _ _), List.take_left' (fxL_length _ _)]; decide)

set_option maxHeartbeats 4000000 in
theorem scan_start (w : World) (A : Option Addr) (c : Nat) (hnc : 28 ≤ c) (hcm : c ≤ maxLen) (hA : Rd w A S0) (R : Ending → World → Prop)
    (hR : R = fun e w' => e = .returned (.tuple #[.int .i64 256, .int .i64 0, .slice none 0 0, .int .i64 0]) ∧ Below w.heap.size w w') :
    Calls Try.prog 22 #[.slice A 28 c] w R := by
  have HR := Lib.hid hR; clear hR
  have hs1 := run_str w A 8 c (S0.take 8) (by rw [S0_sign]; rfl) (rd_take hA 8)
  rw [S0_sign] at hs1
  have hcmp : ((strOfNums jsign).toList == ([116, 111, 109, 101, 32, 106, 110, 108] : List UInt8)) = true := by
    rw [jsign_const]; rfl
  obtain ⟨b, off, rfl, _, hcells⟩ := hA.at (by rw [S0_length]; decide)
  clear hcells
  have hc8 : 8 ≤ c := by omega
  have HA := Lib.hid hA; clear hA
  have HC := Lib.hid hcm
  go_enter Try.func22, Try.ntmps22
  go_wp2_with fail
  go_step3
  go_wp2_with fail
  refine (read_any _ _ 28 c S0 8 4 S0_length hnc hcm HA.out S0_isB (by omega)).mono ?_
  rintro e w1 ⟨rfl, rfl⟩
  simp only [S0_n]
  go_wp2_with fail
  refine (read_any _ _ 28 c S0 12 4 S0_length hnc HC.out HA.out S0_isB (by omega)).mono ?_
  rintro e w1 ⟨rfl, rfl⟩
  simp only [S0_k]
  go_wp2_with fail
  refine (read_any _ _ 28 c S0 16 8 S0_length hnc HC.out HA.out S0_isB (by omega)).mono ?_
  rintro e w1 ⟨rfl, rfl⟩
  simp only [S0_c]
  go_wp2_with fail
  refine (jStart_any _ 256 0 0 (by unfold i64ok; omega) (by unfold i64ok; omega) (by omega)).mono ?_
  rintro e w2 ⟨A2, n2, c2, rfl, h1, h2, h3, h4, h5⟩
  have hst : startL 256 0 0 = S0 := if_pos (by decide)
  have hse : startE 256 0 = 0 := if_pos (by decide)
  rw [hst] at h1 h4
  rw [S0_length] at h1
  subst h1
  simp only [hse]
  have hs2 := fun k => run_str (w2.drewN k) A2 28 c2 S0 S0_length (h4.keep (below_drewN (Below.refl _ _) k))
  have hs3 := fun k => run_str (w2.drewN k) (some ⟨b, off, none⟩) 28 c S0 S0_length ((HA.out.keep h5).keep (below_drewN (Below.refl _ _) k))
  clear hs1 hcmp h4 hst hse
  have HB := Lib.hid h5; clear h5
  go_upto_region 9 with fail
  go_quiet (fail)
  have hw264 : IntKind.i64.wrap (4 + 256) = 260 := by decide
  go_wp2_with fail
  go_step3
  go_wp2_with fail
  clear hs2 hs3 hw264
  have hB2 : Below w.heap.size w (w2.drewN nq) := below_drewN HB.out nq
  generalize w2.drewN nq = w3 at hB2 ⊢
  go_loopw [4, 15] (fun l z wr => l = .slice none 0 0 ∧ z = .int .i64 28 ∧ wr = w3) (fun _ _ _ => 0)
  case atStart => exact ⟨rfl, rfl, rfl⟩
  case round =>
    obtain ⟨rfl, rfl, rfl⟩ := hrel
    go_wp2
    rw [Exit.noGoto_ret]
    refine bodyPost_ret (results_tmp4 rfl _ _ _) rfl ?_
    rw [HR.out]
    exact ⟨rfl, hB2⟩
end Go.Proofs.Ytlehpgokjppccaa
