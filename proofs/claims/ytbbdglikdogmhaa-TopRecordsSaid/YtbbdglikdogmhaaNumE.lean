/- Walk: tomeref01.Unvarint. -/
import Derived.Test.YtbbdglikdogmhaaNumD
namespace Go.Proofs.Ytbbdglikdogmhaa
open Go.RowKit
set_option maxRecDepth 100000

/-- The first j bytes are one number's. -/
def Shut (s : List Int) (j : Nat) : Prop := Pre s j ∧ j < s.length ∧ ¬ 128 ≤ bt s j ∧ ¬ (j = 9 ∧ 1 < bt s j)
def RUnvRel (w : World) (s : List Int) (p : Nat) (a out : Value) (wr : World) : Prop :=
  ∃ (j : Nat) (A : Option Addr) (c : Nat), a = .int .i64 ((p : Int) + (j : Int)) ∧ out = .slice A j c ∧ OwnB wr w.heap.size A j c (s.take j) ∧ (Pre s j ∨ ∃ i, j = i + 1 ∧ Shut s i) ∧ Below w.heap.size w wr
def RUnvBack (w : World) (R : Int × Int × Int) (e : Ending) (w' : World) : Prop :=
  e = .returned (.tuple #[.int .i64 R.1, .int .i64 R.2.1, .int .i64 R.2.2]) ∧ Below w.heap.size w w'

theorem bt_take {s : List Int} {i j : Nat} (h : i < j) : bt (s.take j) i = bt s i := by simp [bt, h]

set_option maxRecDepth 100000 in
set_option maxHeartbeats 8000000 in
theorem runv_any (w : World) (A : Option Addr) (n c : Nat) (l : List Int) (at_ : Int) (hn : l.length = n) (hm : n ≤ 9223372036854775807) (hA : Rd w A l) (hB : IsB l) (_ha : -9223372036854775808 ≤ at_ ∧ at_ ≤ 9223372036854775807) :
    Calls Try.prog 56 #[.slice A n c, .int .i64 at_] w (RUnvBack w (unvL l at_)) := by
  have HN := Lib.hid hn; clear hn
  have HA := Lib.hid hA; clear hA
  have HB := Lib.hid hB; clear hB
  by_cases h1 : at_ < 0
  · have e : unvL l at_ = (0, 0, 1) := by rw [unvL, if_pos h1]
    rw [e]
    clear e
    go_enter Try.func56, Try.ntmps56
    go_wp2_with fail
    go_ret3
    exact ⟨rfl, Below.refl _ _⟩
  · obtain ⟨p, rfl⟩ := Int.eq_ofNat_of_zero_le (show 0 ≤ at_ by omega)
    have e : unvL l (p : Int) = unvG p (grp 0 (l.drop p)) := by rw [unvL, if_neg h1, Int.toNat_natCast]
    rw [e]
    obtain ⟨s, hs⟩ : ∃ s, s = l.drop p := ⟨_, rfl⟩
    rw [← hs]
    obtain ⟨R, hR⟩ : ∃ R, R = unvG p (grp 0 s) := ⟨_, rfl⟩
    rw [← hR]
    have HR := Lib.hid hR; clear hR
    have hsl : s.length = n - p := by rw [hs, List.length_drop, HN.out]
    have hsb : ∀ j, bt s j = bt l (p + j) := fun j => by rw [hs, bt_drop]
    have hsB : IsB s := by rw [hs]; exact fun x hx => HB.out x (List.mem_of_mem_drop hx)
    have HSL := Lib.hid hsl; clear hsl
    have HSB := Lib.hid hsb; clear hsb
    have HSI := Lib.hid hsB; clear hsB
    clear hs e h1
    go_enter Try.func56, Try.ntmps56
    go_wp2_with fail
    go_loopw [1, 7] (fun a out wr => RUnvRel w s p a out wr) (fun a _ _ => ((p : Int) + 11 - intOf a).toNat)
    case atStart => exact ⟨0, none, 0, by simp, rfl, OwnB.nil _ _, .inl (Pre.zero s), Below.refl _ _⟩
    case round =>
      obtain ⟨j, A1, c1, rfl, rfl, hown, hst, hb⟩ := hrel
      have hbs := hb.size
      rcases hst with hp | ⟨i, rfl, hsh⟩
      · have hj9 : j ≤ 9 := hp.1
        have HP := Lib.hid hp; clear hp
        -- the test at the head says yes
        by_cases hend : n ≤ p + j
        · have hre := HR.out.trans (unv_short HP.out (by rw [HSL.out]; omega) p)
          have HRE := Lib.hid hre; clear hre
          by_cases hj0 : j = 0
          · subst hj0
            have HO := Lib.hid hown; clear hown
            go_wp2_with fail
            go_ret3
            exact ⟨by rw [HRE.out]; rfl, hb⟩
          · obtain ⟨g, hA1, hg1, hg2⟩ := hown.at (by omega)
            subst hA1
            have hc := hown.cellAt (j - 1) (by omega)
            rw [bt_take (by omega)] at hc
            have hx := HP.out.2.2 (j - 1) (by omega)
            have HO := Lib.hid hown; clear hown
            have h0 : ((j : Int) == 0) = false := by simp; omega
            have ht : ((j : Int) - 1).toNat = j - 1 := by omega
            go_wp2_with fail
            go_ret3
            exact ⟨by rw [HRE.out]; rfl, hb⟩
        · have hjs : j < s.length := by rw [HSL.out]; omega
          obtain ⟨b, off, hA', hbl, hcell⟩ := Rd.at (HA.out.keep hb) (by rw [HN.out]; omega)
          subst hA'
          have hc := hcell (p + j) (by rw [HN.out]; omega)
          rw [← HSB.out j] at hc
          have HJ := Lib.hid hjs; clear hjs hcell
          obtain ⟨x0, x1⟩ := IsB.bt HSI.out j
          obtain ⟨x, hx⟩ : ∃ x, x = bt s j := ⟨_, rfl⟩
          rw [← hx] at hc x0 x1
          have HX := Lib.hid hx; clear hx
          have htk := take_succ_bt HJ.out
          have HTK := Lib.hid htk; clear htk
          by_cases h9 : j = 9 ∧ 1 < x
          · have hre := HR.out.trans (unv_over HP.out HJ.out h9.1 (by rw [← HX.out]; exact h9.2) p)
            have HRE := Lib.hid hre; clear hre
            obtain ⟨h9, hx1⟩ := h9
            have h9b : ((j : Int) == 9) = true := by simp; omega
            obtain ⟨g, hA1, hg1, hg2⟩ := hown.at (by omega)
            subst hA1
            have hc' := hown.cellAt (j - 1) (by omega)
            rw [bt_take (by omega)] at hc'
            have hx' := HP.out.2.2 (j - 1) (by omega)
            have HO := Lib.hid hown; clear hown
            have h0 : ((j : Int) == 0) = false := by simp; omega
            have hj1 : 1 ≤ j := by omega
            have ht : ((j : Int) - 1).toNat = j - 1 := by omega
            clear h9
            go_wp2_with fail
            go_ret3
            exact ⟨by rw [HRE.out]; rfl, hb⟩
          · have h9s : ¬ (j = 9 ∧ 1 < bt s j) := by rw [← HX.out]; exact h9
            have H9S := Lib.hid h9s; clear h9s
            have hnext : Pre s (j + 1) ∨ ∃ i, j + 1 = i + 1 ∧ Shut s i := by
              by_cases hbig : 128 ≤ bt s j
              · exact .inl (HP.out.succ HJ.out H9S.out hbig)
              · exact .inr ⟨j, rfl, HP.out, HJ.out, hbig, H9S.out⟩
            have HNX := Lib.hid hnext; clear hnext
            by_cases hj0 : j = 0
            · subst hj0
              have HO := Lib.hid hown; clear hown
              simp only [Nat.add_zero] at hc
              clear h9
              go_wp2_with (at_builtin; refine wp_append rfl (.tmp 38) (.tmp 43) rfl w.heap.size A1 0 c1 _ rfl (HO.out.alloc _) (some ⟨wr.heap.size, 0, none⟩) 1 1 [x] rfl rfl (OwnB.rd (OwnB.lit wr #[.int .u8 x] [x] _ 1 rfl rfl (Nat.le_refl _) (by decide))) (by omega) (by simp; omega) ?_; intro A3 c3 w3 hown3 _ hb4)
              go_roundw
              case rel => exact ⟨1, A3, c3, by go_num, rfl, by rw [HTK.out, ← HX.out]; exact hown3, HNX.out, (hb.alloc hbs _).trans hb4⟩
              case measure => simp [intOf]; omega
            · obtain ⟨g, hA1, hg1, hg2⟩ := hown.at (by omega)
              subst hA1
              have hc' := hown.cellAt (j - 1) (by omega)
              rw [bt_take (by omega)] at hc'
              have hx' := HP.out.2.2 (j - 1) (by omega)
              have HO := Lib.hid hown; clear hown
              have h0 : ((j : Int) == 0) = false := by simp; omega
              have hj1 : 1 ≤ j := by omega
              have ht : ((j : Int) - 1).toNat = j - 1 := by omega
              by_cases h9j : j = 9
              · have hx1 : x ≤ 1 := by omega
                have h9b : ((j : Int) == 9) = true := by simp; omega
                clear h9 h9j hj0
                go_wp2_with (at_builtin; refine wp_append rfl (.tmp 38) (.tmp 43) rfl w.heap.size (some ⟨g, 0, none⟩) j c1 _ rfl (HO.out.alloc _) (some ⟨wr.heap.size, 0, none⟩) 1 1 [x] rfl rfl (OwnB.rd (OwnB.lit wr #[.int .u8 x] [x] _ 1 rfl rfl (Nat.le_refl _) (by decide))) (by omega) (by simp; omega) ?_; intro A3 c3 w3 hown3 _ hb4)
                go_roundw
                case rel => exact ⟨j + 1, A3, c3, by go_num, rfl, by rw [HTK.out, ← HX.out]; exact hown3, HNX.out, (hb.alloc hbs _).trans hb4⟩
                case measure => simp [intOf]; omega
              · have h9b : ((j : Int) == 9) = false := by simp; omega
                clear h9 h9j hj0
                go_wp2_with (at_builtin; refine wp_append rfl (.tmp 38) (.tmp 43) rfl w.heap.size (some ⟨g, 0, none⟩) j c1 _ rfl (HO.out.alloc _) (some ⟨wr.heap.size, 0, none⟩) 1 1 [x] rfl rfl (OwnB.rd (OwnB.lit wr #[.int .u8 x] [x] _ 1 rfl rfl (Nat.le_refl _) (by decide))) (by omega) (by simp; omega) ?_; intro A3 c3 w3 hown3 _ hb4)
                go_roundw
                case rel => exact ⟨j + 1, A3, c3, by go_num, rfl, by rw [HTK.out, ← HX.out]; exact hown3, HNX.out, (hb.alloc hbs _).trans hb4⟩
                case measure => simp [intOf]; omega
      · -- the number is whole
        obtain ⟨g, hA1, hg1, hg2⟩ := hown.at (by omega)
        subst hA1
        have hc := hown.cellAt i (by omega)
        rw [bt_take (by omega)] at hc
        have hp := hsh.1
        have hlt := hsh.2.1
        have hx := hsh.2.2.1
        have hi9 : i ≤ 9 := hp.1
        obtain ⟨x0, x1⟩ := IsB.bt HSI.out i
        obtain ⟨y, hy⟩ : ∃ y, y = valI (s.take (i + 1)) := ⟨_, rfl⟩
        have hy0 : 0 ≤ y := by rw [hy]; exact (valI_bd _).1
        have hy1 : y ≤ 18446744073709551615 := by have := valI_fits HSI.out hp hlt hsh.2.2.2; rw [hy]; omega
        have HY := Lib.hid hy; clear hy
        have HS := Lib.hid hsh; clear hsh
        have HO := Lib.hid hown; clear hown
        obtain ⟨x, hxx⟩ : ∃ x, x = bt s i := ⟨_, rfl⟩
        rw [← hxx] at hc hx x0 x1
        have HX := Lib.hid hxx; clear hxx hp hlt
        have hx127 : x ≤ 127 := by omega
        have ht : ((i : Int) + 1 - 1).toNat = i := by omega
        have h0 : ((i : Int) + 1 == 0) = false := by simp; omega
        clear hx
        by_cases hf : 0 < i ∧ x = 0
        · obtain ⟨hf1, hf2⟩ := hf
          have hre := HR.out.trans (unv_form HS.out.1 HS.out.2.1 HS.out.2.2.2 HS.out.2.2.1 hf1 (HX.out.symm.trans hf2) p)
          have HRE := Lib.hid hre; clear hre
          subst hf2
          go_wp2_with fail
          go_ret3
          exact ⟨by rw [HRE.out]; rfl, hb⟩
        · have hre := HR.out.trans (unv_ok HS.out.1 HS.out.2.1 HS.out.2.2.2 HS.out.2.2.1 (by rw [← HX.out]; exact hf) p)
          rw [← HY.out] at hre
          have HRE := Lib.hid hre; clear hre
          have hxz : 0 < i → (x == 0) = false := fun h0 => by simp; omega
          by_cases hi0 : 0 < i
          · have hx0 := hxz hi0
            clear hxz hf
            go_wp2_with fail
            go_loop [8, 9] (fun z q => ∃ k : Nat, k ≤ i + 1 ∧ q = .int .i64 ((k : Int) - 1) ∧ z = .int .u64 (valI ((s.take (i + 1)).drop k))) (fun _ q => (intOf q + 1).toNat)
            case atStart => exact ⟨i + 1, Nat.le_refl _, by go_num, by rw [List.drop_eq_nil_of_le (by simp; omega)]; rfl⟩
            case round =>
              obtain ⟨k, hk, rfl, rfl⟩ := hrel
              by_cases hk0 : k = 0
              · subst hk0
                have hzy : valI ((s.take (i + 1)).drop 0) = y := by rw [HY.out]; rfl
                rw [hzy]
                clear hzy
                by_cases hodd : y % 2 = 1
                · have hb1 : (y % 2 == 1) = true := by simpa using hodd
                  have hz : zag y = -(y / 2) - 1 := by rw [zag, if_pos hodd]
                  have HZ := Lib.hid hz; clear hz hodd
                  go_wp2_with fail
                  go_ret3
                  exact ⟨by rw [HRE.out, HZ.out, Int.add_assoc]; rfl, hb⟩
                · have hb1 : (y % 2 == 1) = false := by simpa using hodd
                  have hz : zag y = y / 2 := by rw [zag, if_neg hodd]
                  have HZ := Lib.hid hz; clear hz hodd
                  go_wp2_with fail
                  go_ret3
                  exact ⟨by rw [HRE.out, HZ.out, Int.add_assoc]; rfl, hb⟩
              · have hdr := valI_drop (s.take (i + 1)) (k - 1) (by have := HO.out.len; omega)
                rw [show k - 1 + 1 = k by omega, bt_take (by omega)] at hdr
                obtain ⟨z0, _⟩ := valI_drop_le (s.take (i + 1)) k
                obtain ⟨_, z1⟩ := valI_drop_le (s.take (i + 1)) (k - 1)
                rw [← HY.out] at z1
                obtain ⟨z, hz⟩ : ∃ z, z = valI ((s.take (i + 1)).drop k) := ⟨_, rfl⟩
                rw [← hz] at hdr z0 ⊢
                have hck := HO.out.cellAt (k - 1) (by omega)
                rw [bt_take (by omega)] at hck
                obtain ⟨v0, v1⟩ := IsB.bt HSI.out (k - 1)
                obtain ⟨v, hv⟩ : ∃ v, v = bt s (k - 1) := ⟨_, rfl⟩
                rw [← hv] at hdr hck v0 v1
                rw [hdr] at z1
                have HD := Lib.hid hdr; clear hdr hz hv
                have hw1 : IntKind.u64.wrap (z * 128) = z * 128 := IntWalk.u64_in _ (by omega)
                have hw2 : IntKind.u64.wrap (z * 128 + v % 128) = z * 128 + v % 128 := IntWalk.u64_in _ (by omega)
                have htk : ((k : Int) - 1).toNat = k - 1 := by omega
                have hk1 : 1 ≤ k := by omega
                clear hk0
                go_wp2_with fail
                go_round
                case rel => exact ⟨k - 1, by omega, by go_num, by rw [HD.out]⟩
                case measure => simp [intOf]; omega
          · clear hxz hf
            go_wp2_with fail
            go_loop [8, 9] (fun z q => ∃ k : Nat, k ≤ i + 1 ∧ q = .int .i64 ((k : Int) - 1) ∧ z = .int .u64 (valI ((s.take (i + 1)).drop k))) (fun _ q => (intOf q + 1).toNat)
            case atStart => exact ⟨i + 1, Nat.le_refl _, by go_num, by rw [List.drop_eq_nil_of_le (by simp; omega)]; rfl⟩
            case round =>
              obtain ⟨k, hk, rfl, rfl⟩ := hrel
              by_cases hk0 : k = 0
              · subst hk0
                have hzy : valI ((s.take (i + 1)).drop 0) = y := by rw [HY.out]; rfl
                rw [hzy]
                clear hzy
                by_cases hodd : y % 2 = 1
                · have hb1 : (y % 2 == 1) = true := by simpa using hodd
                  have hz : zag y = -(y / 2) - 1 := by rw [zag, if_pos hodd]
                  have HZ := Lib.hid hz; clear hz hodd
                  go_wp2_with fail
                  go_ret3
                  exact ⟨by rw [HRE.out, HZ.out, Int.add_assoc]; rfl, hb⟩
                · have hb1 : (y % 2 == 1) = false := by simpa using hodd
                  have hz : zag y = y / 2 := by rw [zag, if_neg hodd]
                  have HZ := Lib.hid hz; clear hz hodd
                  go_wp2_with fail
                  go_ret3
                  exact ⟨by rw [HRE.out, HZ.out, Int.add_assoc]; rfl, hb⟩
              · have hdr := valI_drop (s.take (i + 1)) (k - 1) (by have := HO.out.len; omega)
                rw [show k - 1 + 1 = k by omega, bt_take (by omega)] at hdr
                obtain ⟨z0, _⟩ := valI_drop_le (s.take (i + 1)) k
                obtain ⟨_, z1⟩ := valI_drop_le (s.take (i + 1)) (k - 1)
                rw [← HY.out] at z1
                obtain ⟨z, hz⟩ : ∃ z, z = valI ((s.take (i + 1)).drop k) := ⟨_, rfl⟩
                rw [← hz] at hdr z0 ⊢
                have hck := HO.out.cellAt (k - 1) (by omega)
                rw [bt_take (by omega)] at hck
                obtain ⟨v0, v1⟩ := IsB.bt HSI.out (k - 1)
                obtain ⟨v, hv⟩ : ∃ v, v = bt s (k - 1) := ⟨_, rfl⟩
                rw [← hv] at hdr hck v0 v1
                rw [hdr] at z1
                have HD := Lib.hid hdr; clear hdr hz hv
                have hw1 : IntKind.u64.wrap (z * 128) = z * 128 := IntWalk.u64_in _ (by omega)
                have hw2 : IntKind.u64.wrap (z * 128 + v % 128) = z * 128 + v % 128 := IntWalk.u64_in _ (by omega)
                have htk : ((k : Int) - 1).toNat = k - 1 := by omega
                have hk1 : 1 ≤ k := by omega
                clear hk0
                go_wp2_with fail
                go_round
                case rel => exact ⟨k - 1, by omega, by go_num, by rw [HD.out]⟩
                case measure => simp [intOf]; omega
end Go.Proofs.Ytbbdglikdogmhaa
