/- A file's head, read: plain; walk: header.Decode. -/
import Derived.Test.YtlehpgokjppccaaHdE
import Derived.Test.YtlehpgokjppccaaNumB
namespace Go.Proofs.Ytlehpgokjppccaa
open Go.RowKit
set_option maxRecDepth 100000

def fourI (b : List Int) (p : Nat) : Int := beI ((b.drop p).take 4)
def readH (b : List Int) : Hd := ⟨fourI b 16, fourI b 20, fourI b 24, fourI b 28, fourI b 32, fourI b 36⟩
def zeroH : Hd := ⟨0, 0, 0, 0, 0, 0⟩
def decOk (b : List Int) : Prop := (readH b).good ∧ headL (readH b) = b.take 64
instance (b : List Int) : Decidable (decOk b) := by unfold decOk; infer_instance
def decL (b : List Int) : Hd × Int := if b.length < 64 then (zeroH, 6) else if b.take 16 ≠ signL then (zeroH, 8) else if decOk b then (readH b, 0) else (zeroH, 14)

theorem four_bd {b : List Int} (hB : IsB b) (p : Nat) : 0 ≤ fourI b p ∧ fourI b p ≤ 4294967295 := by
  have h := beI_lt (l := (b.drop p).take 4) (fun x hx => hB x (List.mem_of_mem_drop (List.mem_of_mem_take hx))) 4 (by simp; omega)
  have e : (256 : Int) ^ 4 = 4294967296 := by decide
  unfold fourI; rw [e] at h; omega
theorem readH_ok {b : List Int} (hB : IsB b) : (readH b).ok := by
  have h1 := four_bd hB 16
  have h2 := four_bd hB 20
  have h3 := four_bd hB 24
  have h4 := four_bd hB 28
  have h5 := four_bd hB 32
  have h6 := four_bd hB 36
  unfold Hd.ok i64ok readH
  simp only
  omega

theorem hfield_any (w : World) (p : Addr) (A : Option Addr) (n c : Nat) (l : List Int) (i : Nat) (hi : i ≤ 5) (hp : w.cell? p = some (.slice A n c)) (hn : l.length = n) (hnc : n ≤ c) (hcm : c ≤ maxLen) (hA : Rd w A l) (hB : IsB l) (h64 : 64 ≤ n) :
    Calls Try.prog 43 #[.int .i64 (i : Int), .pointer (some p)] w fun e w' => e = .returned (.int .i64 (fourI l (16 + 4 * i))) ∧ w = w' := by
  have HN := Lib.hid hn; clear hn
  have HA := Lib.hid hA; clear hA
  have HB := Lib.hid hB; clear hB
  have w1 : IntKind.i64.wrap (4 * (i : Int)) = 4 * (i : Int) := IntWalk.i64_in _ (by omega)
  have w2 : IntKind.i64.wrap (16 + 4 * (i : Int)) = 16 + 4 * (i : Int) := IntWalk.i64_in _ (by omega)
  go_enter Try.func43, Try.ntmps43
  go_wp2_with fail
  refine (read_any _ A n c l (16 + 4 * (i : Int)) 4 HN.out hnc hcm HA.out HB.out (by omega)).mono ?_
  rintro e w3 ⟨rfl, rfl⟩
  have hr := readL_ok (l := l) (p := 16 + 4 * i) (k := 4) (by decide) (by decide) (by rw [HN.out]; omega)
  rw [show ((16 + 4 * i : Nat) : Int) = 16 + 4 * (i : Int) by omega, show ((4 : Nat) : Int) = 4 from rfl] at hr
  simp only [hr]
  clear hr
  obtain ⟨f0, f1⟩ := four_bd HB.out (16 + 4 * i)
  have hf : beI ((l.drop (16 + 4 * i)).take 4) = fourI l (16 + 4 * i) := rfl
  simp only [hf]
  have wf : IntKind.i64.wrap (fourI l (16 + 4 * i)) = fourI l (16 + 4 * i) := IntWalk.i64_in _ (by omega)
  go_wp2
  go_ret
  exact ⟨rfl, rfl⟩
end Go.Proofs.Ytlehpgokjppccaa
