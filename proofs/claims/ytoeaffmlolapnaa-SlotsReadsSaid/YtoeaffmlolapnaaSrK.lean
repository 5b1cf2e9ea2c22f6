/- Walk: SlotsPacks. -/
import Derived.Test.YtoeaffmlolapnaaSrH
namespace Go.Proofs.Ytoeaffmlolapnaa
open Go.RowKit
set_option maxRecDepth 100000
set_option linter.unusedVariables false
set_option linter.unusedSimpArgs false
set_option linter.unnecessarySimpa false

theorem OwnB.mut {w w' : World} {gb base n c : Nat} {A : Option Addr} {l : List Int} (h : OwnB w base A n c l) (hm : Mut w gb w') (hg : gb < base) : OwnB w' base A n c l := by
  refine ⟨h.1, ?_⟩
  rcases h.2 with hv | ⟨g, cap, cur, hv, hbg, hgg, rest⟩
  · exact .inl hv
  · exact .inr ⟨g, cap, cur, hv, hbg, (hm.block g (Array.getElem?_eq_some_iff.1 hgg).1 (by omega)).trans hgg, rest⟩
theorem OwnG.mut {E : TypeId} {w w' : World} {gb base n c : Nat} {A : Option Addr} {vs : List Value} (h : OwnG E w base A n c vs) (hm : Mut w gb w') (hg : gb < base) : OwnG E w' base A n c vs := by
  refine ⟨h.1, h.2.1, ?_⟩
  rcases h.2.2 with hv | ⟨g, cap, cur, hv, hbg, hgg, rest⟩
  · exact .inl hv
  · exact .inr ⟨g, cap, cur, hv, hbg, (hm.block g (Array.getElem?_eq_some_iff.1 hgg).1 (by omega)).trans hgg, rest⟩
theorem OwnB.apartG {w : World} {b1 b2 n1 c1 n2 c2 : Nat} {A1 A2 : Option Addr} {l : List Int} {vs : List Value} (h : OwnB w b1 A1 n1 c1 l) (k : OwnG 29 w b2 A2 n2 c2 vs) : ∀ b, A1 = some b → ∀ a, A2 = some a → a.block ≠ b.block := by
  intro b hb a ha e
  rcases h.2 with ⟨hv, _⟩ | ⟨g, cap, cur, hv, hbg, hgg, rest⟩
  · injection hv with e1; rw [e1] at hb; cases hb
  · injection hv with e1
    rw [e1] at hb
    injection hb with hb
    subst hb
    rcases k.2.2 with ⟨hv2, _⟩ | ⟨g2, cap2, cur2, hv2, hbg2, hgg2, rest2⟩
    · injection hv2 with e2; rw [e2] at ha; cases ha
    · injection hv2 with e2
      rw [e2] at ha
      injection ha with ha
      subst ha
      have e : g2 = g := e
      subst e
      rw [hgg] at hgg2
      injection hgg2 with q
      injection q with _ q2 _
      exact absurd q2 (by decide)
/-- Rows of bytes of one's own. -/
structure Was (w : World) (base : Nat) (B : Option Addr) (j cB : Nat) (S : List Sl) (C : List (List Int)) : Prop where
  own : OwnG 29 w base B j cB (rowC S)
  len : S.length = j
  rows : ∀ i, i < j → ∃ s, S[i]? = some s ∧ OwnB w base s.A s.n s.c (C.getD i [])
theorem Was.keep {w w' : World} {base j cB : Nat} {B : Option Addr} {S : List Sl} {C : List (List Int)} (h : Was w base B j cB S C) (hb : Below w.heap.size w w') : Was w' base B j cB S C :=
  ⟨h.own.keep hb, h.len, fun i hi => by obtain ⟨s, h1, h2⟩ := h.rows i hi; exact ⟨s, h1, h2.keep hb⟩⟩
theorem Was.mut {w w' : World} {base j cB gb : Nat} {B : Option Addr} {S : List Sl} {C : List (List Int)} (h : Was w base B j cB S C) (hm : Mut w gb w') (hg : gb < base) : Was w' base B j cB S C :=
  ⟨h.own.mut hm hg, h.len, fun i hi => by obtain ⟨s, h1, h2⟩ := h.rows i hi; exact ⟨s, h1, h2.mut hm hg⟩⟩
theorem doM_good {M : Mdl} (g : Good M) : Good M.pack := g.packed
theorem pack_pack (M : Mdl) : M.pack.pack = M.pack := rfl
theorem pack_room (M : Mdl) : M.pack.room = M.room := rfl
theorem pack_left (M : Mdl) : M.pack.left = M.left := rfl
theorem room_bd {M : Mdl} (g : Good M) : -1 ≤ M.room ∧ M.room ≤ 4096 := by
  have := left_bd g
  unfold Mdl.room
  split <;> omega
theorem ins_full (M : Mdl) (N : Nat) (hN : (N : Int) = M.room + 1) : insM M 0 (List.replicate N 0) = (M, 5) := by
  unfold insM
  rw [if_neg (by omega), List.length_replicate, if_pos]
  unfold Mdl.room at hN
  split at hN <;> omega
theorem ins_fits (M : Mdl) (N : Nat) (hN : (N : Int) = M.room) : (insM M (M.k : Int) (List.replicate N 0)).2 = 0 ∧ (insM M (M.k : Int) (List.replicate N 0)).1.room = -1 := by
  have h4 : ¬ M.left < 4 := by
    intro h
    unfold Mdl.room at hN
    rw [if_pos h] at hN
    omega
  have hl : M.left = (N : Int) + 4 := by
    unfold Mdl.room at hN
    rw [if_neg h4] at hN
    omega
  unfold insM
  rw [if_neg (by omega), List.length_replicate, if_neg (by omega), Int.toNat_natCast]
  refine ⟨rfl, ?_⟩
  have hC : ∀ Z : Mdl, Z.C = M.C → Z.n = M.n → Z.h = M.h → ∀ q, (Z.ins M.k q (List.replicate N 0)).left = 0 := by
    intro Z z1 z2 z3 q
    have e : takenC (Z.ins M.k q (List.replicate N 0)).C = takenC M.C + (4 + N) := by
      show takenC (Z.C.take M.k ++ List.replicate N 0 :: Z.C.drop M.k) = _
      rw [z1]
      have h1 : M.C.take M.k = M.C := List.take_length
      have h2 : M.C.drop M.k = [] := List.drop_length
      rw [h1, h2, takenC_app, takenC_one, List.length_replicate]
    unfold Mdl.left at hl ⊢
    rw [e]
    have e2 : (Z.ins M.k q (List.replicate N 0)).n = M.n := z2
    have e3 : (Z.ins M.k q (List.replicate N 0)).h = M.h := z3
    rw [e2, e3]
    omega
  have hz : ((M.room1 N).ins M.k ((M.room1 N).top - 2 - N) (List.replicate N 0)).left = 0 := by
    refine hC _ ?_ ?_ ?_ _
    all_goals
      unfold Mdl.room1
      split <;> rfl
  unfold Mdl.room
  rw [if_pos (by rw [hz]; decide)]
def PkRel1 (w : World) (g gb c : Nat) (X : List Value) (M0 : Mdl) (F : List Dd) (iv : Value) (wr : World) : Prop :=
  ∃ (j : Nat) (L : List Int), j ≤ F.length ∧ iv = .int .i64 j ∧ Pg wr g gb c (doAll M0 (F.take j)).h L X ∧ IsP L (doAll M0 (F.take j)) ∧ Good (doAll M0 (F.take j)) ∧ Below w.heap.size w wr
def PkRel2 (w6 : World) (M : Mdl) (ov iv : Value) (wr : World) : Prop :=
  ∃ (j cB : Nat) (B : Option Addr) (S : List Sl), j ≤ M.k ∧ iv = .int .i64 j ∧ ov = .slice B j cB ∧ Was wr w6.heap.size B j cB S M.C ∧ Below w6.heap.size w6 wr

set_option maxHeartbeats 32000000 in
theorem slotsPacks_walk (w : World) (n h : Int) (A : Option Addr) (m c : Nat) (F : List Dd) (hn : i64b n) (hh : i64b h) (hF : F.length = m) (hmc : m ≤ c) (hcm : c ≤ maxLen) (hA : RdDd w A F) (hok : ∀ d ∈ F, DdOk d) :
    Calls Try.prog 6 #[.int .i64 n, .int .i64 h, .slice A m c] w (LiveYes w) := by
  obtain ⟨R, hR⟩ : ∃ R, R = LiveYes w := ⟨_, rfl⟩
  rw [← hR]
  have HRR := Lib.hid hR; clear hR
  have HA := Lib.hid hA
  have HF := Lib.hid hF
  have HOK := Lib.hid hok
  have hm63 : m ≤ 9223372036854775807 := by unfold maxLen at hcm; omega
  have hsm := small9_any w A m c F hF hmc hcm hA
  clear hA hok hF
  go_enter Try.func6, Try.ntmps6
  go_wp2_with fail
  refine hsm.mono ?_
  clear hsm
  rintro e w1 ⟨rfl, rfl⟩
  by_cases hsml : smallD F
  case neg =>
    rw [decide_eq_false hsml]
    clear hsml
    go_wp2_with fail
    refine (live_any _ _ rfl).mono ?_
    rintro e w2 ⟨rfl, hb2⟩
    go_wp2_with fail
    rw [HRR.out]
    exact ⟨rfl, hb2⟩
  rw [decide_eq_true hsml]
  have HSM := Lib.hid hsml
  have hm100 : m ≤ 100 := by rw [← HF.out]; exact hsml.1
  clear hsml
  go_wp2_with fail
  refine (pNew_any _ n h hn hh _ rfl).mono ?_
  rintro e w2 ⟨hb2, ⟨hno, rfl⟩ | ⟨hm, g, gb, rfl, hg0, hgb0, hp⟩⟩
  · have q2 : ((1 : Int) != 0) = true := rfl
    go_wp2_with fail
    refine (live_any _ _ rfl).mono ?_
    rintro e w6 ⟨rfl, hb6⟩
    go_wp2_with fail
    rw [HRR.out]
    exact ⟨rfl, hb2.trans (hb6.mono hb2.size)⟩
  have q1 : ((0 : Int) != 0) = false := rfl
  obtain ⟨N, hN⟩ : ∃ N, n.toNat = N := ⟨_, rfl⟩
  obtain ⟨D, hD⟩ : ∃ D, h.toNat = D := ⟨_, rfl⟩
  rw [hN, hD] at hp
  have hND : mayP (N : Int) (D : Int) := by
    obtain ⟨m1, m2, m3, m4⟩ := hm
    rw [← hN, ← hD, Int.toNat_of_nonneg (by omega), Int.toNat_of_nonneg m3]
    exact ⟨m1, m2, m3, m4⟩
  obtain ⟨M0, hM0⟩ : ∃ M, newM N D = M := ⟨_, rfl⟩
  have hh0 : M0.h = D := by rw [← hM0, new_h]
  have HG0 := Lib.hid (show Good M0 by rw [← hM0]; exact new_good hND)
  have HI0 := Lib.hid (show IsP (List.replicate N 0) M0 by rw [← hM0]; exact new_page hND)
  rw [← hh0] at hp
  have HP0 := Lib.hid hp
  have hb2' := hb2
  clear hm hN hD hM0 hND hh0 hp hg0
  go_wp2_with fail
  go_loopw [39] (PkRel1 w g gb N [] M0 F) (fun i _ => m - (intOf i).toNat)
  case atStart => exact ⟨0, _, Nat.zero_le _, rfl, HP0.out, HI0.out, HG0.out, hb2⟩
  case round =>
    obtain ⟨j, L, hj, rfl, hpj, hij, hgj, hb⟩ := hrel
    have HPJ := Lib.hid hpj
    have HIJ := Lib.hid hij
    have HGJ := Lib.hid hgj
    rw [HF.out] at hj
    clear hpj hij hgj hb2' HP0 HI0 HG0
    by_cases hlt : j < m
    · have hjF : j < F.length := by rw [HF.out]; exact hlt
      have hlt' : (j : Int) < (m : Int) := by omega
      have i0 : (0 : Int) ≤ (j : Int) := by omega
      obtain ⟨b, off, hAe, hcell⟩ := HA.out.at (by omega)
      obtain ⟨B, sc, hrg, hrd⟩ := (hcell j hjF).range
      have hdm : dd_ F j ∈ F := by rw [dd_lt hjF]; exact List.getElem_mem hjF
      have HDT := Lib.hid (doAll_take (M := M0) hjF)
      have HDO := Lib.hid (HOK.out _ hdm)
      have HDL := Lib.hid (HSM.out.2 _ hdm)
      obtain ⟨d, hd⟩ : ∃ d, dd_ F j = d := ⟨_, rfl⟩
      obtain ⟨Mj, hMj⟩ : ∃ M, doAll M0 (F.take j) = M := ⟨_, rfl⟩
      rw [hd] at hrg hrd HDT HDO HDL
      rw [hMj] at HPJ HIJ HGJ HDT
      have hblk : b < w.heap.size := World.block_lt_of_cell? w ⟨b, off + j * 3 + 0, none⟩ (hrg 0 _ rfl)
      have HNE := Lib.hid (show ∀ a, B = some a → d.b ≠ [] → a.block ≠ gb from fun a ha hne => by
        have h1 : a.block < w.heap.size := by
          rcases hrd with h | ⟨b', o', hB, hc'⟩
          · exact absurd h hne
          · rw [ha] at hB
            injection hB with hB
            subst hB
            exact World.block_lt_of_cell? w _ (hc' 0 (List.length_pos_iff.2 hne))
        omega)
      have HRG := Lib.hid (rangeKeep hrg hb hblk)
      have HRD := Lib.hid (hrd.keep hb)
      have hbz := hb.size
      subst hAe
      clear hcell hrg hrd hd hMj hdm hblk
      go_upto_region 8 with fail
      iterate 4 go_step
      refine wp_load_dd rfl _ rfl b (off + j * 3) d B sc rfl HRG.out ?_
      obtain ⟨W6, hW6⟩ : ∃ W, W = wr.alloc (.cells #[.int .i64 0, .int .i64 0, .slice none 0 0] 37) := ⟨_, rfl⟩
      have hb6 : Below wr.heap.size wr W6 := by rw [hW6]; exact (Below.refl _ _).alloc (Nat.le_refl _) _
      have HT6 := Lib.hid (show W6.there wr.heap.size 0 3 by rw [hW6]; exact there_new3 wr _ _ _ _)
      have HW6 := Lib.hid hW6
      clear hW6
      iterate 3 go_step
      rw [← HW6.out]
      clear HW6
      refine wp_store_dd rfl _ _ rfl wr.heap.size d B sc rfl rfl HT6.out ?_
      obtain ⟨w7, hw7⟩ : ∃ W, W = W6.setCells wr.heap.size 0 (ddC d B sc) := ⟨_, rfl⟩
      have hb7 : Below wr.heap.size wr w7 := by rw [hw7]; exact below_setCellsR hb6 (Nat.le_refl _) _ _
      have HR7 := Lib.hid (show w7.rangeAt wr.heap.size 0 (ddC d B sc) by rw [hw7]; exact World.rangeAt_setCells_same _ _ _ _ HT6.out)
      have HP7 := Lib.hid (HPJ.out.keep hb7)
      have HRD7 := Lib.hid (HRD.out.keep hb7)
      have hb07 : Below w.heap.size w w7 := hb.trans (hb7.mono hbz)
      have hbz7 := hb07.size
      rw [← hw7]
      clear hw7 hb6 hb7 HT6 HPJ HRD HRG
      have hgl := HP7.out.lt
      go_upto_region 9 with fail
      iterate 7 go_step
      refine wp_load_dd rfl _ rfl wr.heap.size 0 d B sc rfl HR7.out ?_
      go_wp2_with fail
      refine (step9_any _ [gb] g gb N L [] Mj zeroM zeroRV HP7.out HIJ.out HGJ.out (zero_ref _ _) zero_sm (by intro i hi; simp at hi; subst hi; exact hgl.2) (by simp) d B sc HDO.out HDL.out HRD7.out HNE.out (.inl rfl) _ rfl).mono ?_
      rintro e w8 ⟨r8, bq, rfl, _, _, hg8, L8, hp8, hi8, hm8⟩
      rw [← HDT.out] at hg8 hp8 hi8
      have HP8 := Lib.hid hp8
      have HI8 := Lib.hid hi8
      have HG8 := Lib.hid hg8
      have hb8 : Below w.heap.size w w8 := hm8.below hb07 hgb0 hbz7
      clear hg8 hp8 hi8 hm8
      go_wp2_with fail
      go_roundw
      case rel => exact ⟨j + 1, L8, by omega, by go_num, HP8.out, HI8.out, HG8.out, hb8⟩
      case measure => simp [intOf]; omega
    · obtain rfl : j = m := by omega
      rw [show F.take j = F by rw [← HF.out, List.take_length]] at HPJ HIJ HGJ
      obtain ⟨M, hM⟩ : ∃ M, doAll M0 F = M := ⟨_, rfl⟩
      rw [hM] at HPJ HIJ HGJ
      clear hM
      have hkf := HGJ.out.kle
      have hnn := HGJ.out.n1
      have hbz := hb.size
      have hgl := HPJ.out.lt
      have hrb := room_bd HGJ.out
      go_wp2_with fail
      go_loopw [11, 12] (PkRel2 wr M) (fun _ i _ => M.k - (intOf i).toNat)
      case atStart => exact ⟨0, 0, none, [], Nat.zero_le _, rfl, rfl, ⟨OwnG.nil _ _ _, rfl, fun i hi => by omega⟩, Below.refl _ _⟩
      case round =>
        rename World => wr2
        obtain ⟨k, cB, B, S, hk, rfl, rfl, hwas, hb2⟩ := hrel
        have HWAS := Lib.hid hwas
        have HPK := Lib.hid (HPJ.out.keep hb2)
        have hz2 := hb2.size
        clear hwas
        go_wp2_with fail
        refine (pMany_any _ g gb N L [] M HPK.out HIJ.out HGJ.out).mono ?_
        rintro e w6 ⟨rfl, rfl⟩
        by_cases hlt2 : k < M.k
        · have hlt2' : (k : Int) < (M.k : Int) := by omega
          have i0 : (0 : Int) ≤ (k : Int) := by omega
          go_wp2_with fail
          refine (pCell_ok _ g gb N L [] M HPK.out HIJ.out HGJ.out k hlt2).mono ?_
          rintro e w7 ⟨A7, n7, c7, rfl, hown7, hb7⟩
          have HO7 := Lib.hid hown7
          have HW7 := Lib.hid (HWAS.out.keep hb7)
          have hb27 : Below wr.heap.size wr w7 := hb2.trans (hb7.mono hz2)
          have hz7 := hb27.size
          clear hown7 hb7
          go_upto_region 16 with fail
          iterate 10 go_step
          have hba : Below w7.heap.size w7 (w7.alloc (.cells #[.slice A7 n7 c7] 29)) := (Below.refl _ _).alloc (Nat.le_refl _) _
          refine wp_append_g 30 29 (.slice none 0 0) 24 Try.underlying30 info_sl rfl (by omega) rfl (.tmp 60) (.tmp 62) rfl wr.heap.size B k cB (rowC S) rfl (HW7.out.own.keep hba) _ 1 1 [.slice A7 n7 c7] rfl rfl (RdG.one w7 _ _ [] (by simp)) (by intro u hu; simp at hu; subst hu; rfl) (by omega) (by simp; omega) ?_
          intro A8 c8 w8 hown8 hb8 hk8
          have hwa := HW7.out.keep hba
          have hox := HO7.out.keep hba
          have HW8 := Lib.hid (show Was w8 wr.heap.size A8 (k + 1) c8 (S ++ [⟨A7, n7, c7⟩]) M.C by
            refine ⟨?_, by simp [HW7.out.len], fun i hi => ?_⟩
            · rw [rowC_app]; exact hown8
            · by_cases hik : i < k
              · obtain ⟨s, h1, h2⟩ := hwa.rows i hik
                exact ⟨s, by rw [List.getElem?_append_left (by rw [HW7.out.len]; exact hik)]; exact h1, h2.kept hk8 (h2.apartG hwa.own)⟩
              · obtain rfl : i = k := by omega
                refine ⟨⟨A7, n7, c7⟩, ?_, ?_⟩
                · rw [List.getElem?_append_right (by rw [HW7.out.len]; exact Nat.le_refl _), HW7.out.len, Nat.sub_self]; rfl
                · exact OwnB.mono (hox.kept hk8 (hox.apartG hwa.own)) (by omega))
          have hb28 : Below wr.heap.size wr w8 := (hb27.trans (hba.mono hz7)).trans hb8
          clear hown8 hb8 hk8 hwa hox hba HW7 HO7 HWAS
          go_wp2_with fail
          go_roundw
          case rel => exact ⟨k + 1, c8, A8, _, by omega, by go_num, rfl, HW8.out, hb28⟩
          case measure => simp [intOf]; omega
        · obtain rfl : k = M.k := by omega
          have hb02 : Below w.heap.size w wr2 := hb.trans (hb2.mono hbz)
          have hz02 := hb02.size
          clear HPJ
          go_wp2_with fail
          -- its room
          refine (pRoom_any _ g gb N L [] M HPK.out HIJ.out HGJ.out).mono ?_
          rintro e w3 ⟨rfl, hb3⟩
          have HP3 := Lib.hid (HPK.out.keep hb3)
          have HW3 := Lib.hid (HWAS.out.keep hb3)
          have hb03 : Below w.heap.size w w3 := hb02.trans (hb3.mono hz02)
          have hz3 : wr.heap.size ≤ w3.heap.size := by have := hb3.size; omega
          clear hb3 HPK HWAS
          go_wp2_with fail
          -- packed
          refine (pPack_any _ g gb N L [] M HP3.out HIJ.out HGJ.out).mono ?_
          rintro e w4 ⟨rfl, L4, ⟨hp4, hm4⟩, hi4⟩
          have HP4 := Lib.hid hp4
          have HI4 := Lib.hid hi4
          have HG4 := Lib.hid HGJ.out.packed
          have HW4 := Lib.hid (HW3.out.mut hm4 hgl.2)
          have hb04 : Below w.heap.size w w4 := hm4.below hb03 hgb0 hb03.size
          have hz4 : wr.heap.size ≤ w4.heap.size := by have := hm4.size; omega
          clear hp4 hi4 hm4 HP3 HW3
          go_wp2_with fail
          refine (pBytes_any _ g gb N _ L4 [] HP4.out (by rw [HI4.out.len]; exact hnn)).mono ?_
          rintro e w5 ⟨A5, n5, c5, rfl, hown5, hb5⟩
          have HO5 := Lib.hid hown5
          have HP5 := Lib.hid (HP4.out.keep hb5)
          have HW5 := Lib.hid (HW4.out.keep hb5)
          have hb05 : Below w.heap.size w w5 := hb04.trans (hb5.mono hb04.size)
          have hz5 : w4.heap.size ≤ w5.heap.size := hb5.size
          have hgl5 := HP4.out.lt
          clear hown5 hb5 HP4 HW4
          go_wp2_with fail
          -- and once more
          refine (pPack_any _ g gb N L4 [] M.pack HP5.out HI4.out HG4.out).mono ?_
          rintro e w6 ⟨rfl, L6, ⟨hp6, hm6⟩, hi6⟩
          rw [pack_pack] at hi6
          obtain rfl : L6 = L4 := IsP.eq HG4.out hi6 HI4.out
          have HP6 := Lib.hid (show Pg w6 g gb N M.pack.h L6 [] from hp6)
          have HW6 := Lib.hid (HW5.out.mut hm6 hgl.2)
          have HO6 := Lib.hid (HO5.out.mut hm6 hgl5.2)
          have hb06 : Below w.heap.size w w6 := hm6.below hb05 hgb0 hb05.size
          have hz6 : w4.heap.size ≤ w6.heap.size := by have := hm6.size; omega
          clear hp6 hi6 hm6 HP5 HW5 HO5
          go_wp2_with fail
          refine (pRoom_any _ g gb N L6 [] M.pack HP6.out HI4.out HG4.out).mono ?_
          rintro e w7 ⟨rfl, hb7⟩
          rw [pack_room]
          obtain ⟨rm, hrm⟩ : ∃ x, M.room = x := ⟨_, rfl⟩
          have HRM := Lib.hid hrm
          rw [hrm] at hrb ⊢
          have z1 : (rm != rm) = false := by simp
          have z2 : ((M.k : Int) != (M.k : Int)) = false := by simp
          have HP7 := Lib.hid (HP6.out.keep hb7)
          have HW7 := Lib.hid (HW6.out.keep hb7)
          have HO7 := Lib.hid (HO6.out.keep hb7)
          have hb07 : Below w.heap.size w w7 := hb06.trans (hb7.mono hb06.size)
          clear hb7 HP6 HW6 HO6 hrm
          go_wp2_with fail
          refine (pMany_any _ g gb N L6 [] M.pack HP7.out HI4.out HG4.out).mono ?_
          rintro e w8 ⟨rfl, rfl⟩
          rw [pack_k]
          go_wp2_with fail
          refine (pBytes_any _ g gb N _ L6 [] HP7.out (by rw [HI4.out.len]; exact hnn)).mono ?_
          rintro e w8 ⟨A8, n8, c8, rfl, hown8, hb8⟩
          have HX8 := Lib.hid hown8
          have HP8 := Lib.hid (HP7.out.keep hb8)
          have HW8 := Lib.hid (HW7.out.keep hb8)
          have HO8 := Lib.hid (HO7.out.keep hb8)
          have hb08 : Below w.heap.size w w8 := hb07.trans (hb8.mono hb07.size)
          clear hown8 hb8 HP7 HW7 HO7
          go_wp2_with fail
          refine (same1_any _ A8 A5 n8 c8 n5 c5 L6 L6 HX8.out.len HO8.out.len (by have := HX8.out.cap; unfold maxLen at this; omega) HX8.out.rd HO8.out.rd).mono ?_
          rintro e w9 ⟨rfl, hb9⟩
          rw [beqL_self]
          have HP9 := Lib.hid (HP8.out.keep hb9)
          have HW9 := Lib.hid (HW8.out.keep hb9)
          have hb09 : Below w.heap.size w w9 := hb08.trans (hb9.mono hb08.size)
          have hz9 := hb09.size
          clear hb9 HP8 HW8 HO8 HX8
          go_wp2_with fail
          go_loopw [17] (fun i wx => ∃ t : Nat, t ≤ M.k ∧ i = .int .i64 t ∧ Below w9.heap.size w9 wx) (fun i _ => M.k - (intOf i).toNat)
          case atStart => exact ⟨0, Nat.zero_le _, rfl, Below.refl _ _⟩
          case round =>
            rename World => wx
            obtain ⟨t, ht, rfl, hbx⟩ := hrel
            have HPX := Lib.hid (HP9.out.keep hbx)
            have HWX := Lib.hid (HW9.out.keep hbx)
            have hzx := hbx.size
            by_cases hlt3 : t < M.k
            · have hlt3' : (t : Int) < (M.k : Int) := by omega
              have i0 : (0 : Int) ≤ (t : Int) := by omega
              go_wp2_with fail
              refine (pCell_ok _ g gb N L6 [] M.pack HPX.out HI4.out HG4.out t hlt3).mono ?_
              rintro e wy ⟨Ay, ny, cy, rfl, howny, hby⟩
              rw [pack_cl] at howny
              have HOY := Lib.hid howny
              have hwy := HWX.out.keep hby
              obtain ⟨s, hs1, hs2⟩ := hwy.rows t hlt3
              have hs2' : OwnB wy wr.heap.size s.A s.n s.c (M.cl t) := hs2
              obtain ⟨b, off, hA, hcell⟩ := (hwy.own.rd (bad := []) (by simp)).at (by rw [rowC_len, hwy.len]; omega)
              have hc := hcell t _ (rowC_get hs1)
              obtain ⟨sA, sn, sc⟩ := s
              simp only at hc hs2'
              have HS2 := Lib.hid hs2'
              have hb9y : Below w9.heap.size w9 wy := hbx.trans (hby.mono hzx)
              subst hA
              clear howny hby hwy hs1 hs2 hs2' hcell HPX HWX
              go_wp2_with fail
              refine (same1_any _ Ay sA ny cy sn sc (M.cl t) (M.cl t) HOY.out.len HS2.out.len (by have := HOY.out.cap; unfold maxLen at this; omega) HOY.out.rd HS2.out.rd).mono ?_
              rintro e wz ⟨rfl, hbz'⟩
              rw [beqL_self]
              have hb9z : Below w9.heap.size w9 wz := hb9y.trans (hbz'.mono hb9y.size)
              clear hbz' hc
              go_wp2_with fail
              go_roundw
              case rel => exact ⟨t + 1, by omega, by go_num, hb9z⟩
              case measure => simp [intOf]; omega
            · obtain rfl : t = M.k := by omega
              have hb0x : Below w.heap.size w wx := hb09.trans (hbx.mono hz9)
              obtain ⟨hr1, hr2⟩ := hrb
              have HPX := Lib.hid (HP9.out.keep hbx)
              have hglx := HPX.out.lt
              obtain ⟨N1, hN1⟩ : ∃ N1 : Nat, rm + 1 = (N1 : Int) := ⟨(rm + 1).toNat, by omega⟩
              have e1 : IntKind.i64.wrap (rm + 1) = (N1 : Int) := by rw [hN1]; exact IntWalk.i64_in _ (by omega)
              have c1 : ¬ rm < -1 := by omega
              have c2 : ¬ 4096 < rm := by omega
              have hmk := run_mk N1 N1 (Nat.le_refl _) (by omega)
              have HIN := Lib.hid (ins_full M.pack N1 (by rw [pack_room, HRM.out]; omega))
              have HN1 := Lib.hid hN1
              obtain ⟨W1, hW1⟩ : ∃ W, W = wx.alloc (.cells (zrs N1) 5) := ⟨_, rfl⟩
              have hbW : Below wx.heap.size wx W1 := by rw [hW1]; exact (Below.refl _ _).alloc (Nat.le_refl _) _
              have HOW := Lib.hid (show OwnB W1 wx.heap.size (some ⟨wx.heap.size, 0, none⟩) N1 N1 (List.replicate N1 0) by rw [hW1]; exact OwnB.zeros wx _ N1 (Nat.le_refl _) (by unfold maxLen; omega))
              have HW := Lib.hid hW1
              have hb01 : Below w.heap.size w W1 := hb0x.trans (hbW.mono hb0x.size)
              have hN1m : N1 ≤ 1000000 := by omega
              clear hW1 hN1
              go_wp2_with fail
              rw [← HW.out]
              clear HW hmk e1
              refine (pIns_any _ g gb N L6 [] M.pack (HPX.out.keep hbW) HI4.out HG4.out 0 (by omega) (by omega) _ N1 N1 (List.replicate N1 0) (by simp) hN1m HOW.out.rd (isB_zeros N1) (by intro a ha _; injection ha with ha; subst ha; show wx.heap.size ≠ gb; omega) _ rfl).mono ?_
              rintro e wb ⟨rfl, hgb, Lb, ⟨hpb, hmb⟩, hib⟩
              rw [HIN.out] at hgb hpb hib
              rw [HIN.out]
              have HPB := Lib.hid hpb
              have HIB := Lib.hid hib
              have hb0b : Below w.heap.size w wb := hmb.below hb01 hgb0 hb01.size
              have hzb := hb0b.size
              have hglb := HPB.out.lt
              have z5 : ((5 : Int) != 5) = false := rfl
              clear hpb hib hmb hgb HPX HOW hbW
              by_cases hneg : rm < 0
              · go_upto_region 31 with fail
                refine wp_region_held_drew (S := (fun W => True)) (by kernel_rfl) ?_ (fun hHeld => ?_)
                · trivial
                refine wpAnyH_ready (rs := [0]) (by kernel_rfl) (by simp) ?_
                refine AllReadyH.cons (o := _) rfl (fun K hK => ?_) AllReadyH.nil
                go_simp
                go_at_call 16
                refine (live_any _ _ rfl).mono ?_
                rintro e wl ⟨rfl, hbl⟩
                have hbl' : Below wb.heap.size wb wl := ((Below.refl _ wb).drew).trans (hbl.mono (Nat.le_refl _))
                clear hbl
                refine hK.out _ _ ?_ (fun hHeld => ?_)
                · trivial
                clear hK K
                try simp only [Act.put, List.setIfInBounds_toArray, List.set_cons_zero, List.set_cons_succ, List.getElem_toArray, List.getElem_cons_zero, List.getElem_cons_succ]
                refine' wpAnyH_take (i := 1) (oi := _) (v := _) rfl (by kernel_rfl) (by kernel_rfl) (by kernel_rfl) (fun _ _ _ h => h) (Or.inl ⟨by rfl, ?hz1⟩) (by assumption) ?rezt1
                case hz1 => (intro w' hSw; (try dsimp only at hSw); go_simp; try with_reducible rfl)
                try simp only [Act.put, List.setIfInBounds_toArray, List.set_cons_zero, List.set_cons_succ, List.getElem_toArray, List.getElem_cons_zero, List.getElem_cons_succ]
                refine' wpAnyH_take (i := 2) (oi := _) (v := _) rfl (by kernel_rfl) (by kernel_rfl) (by kernel_rfl) (fun _ _ _ h => h) (Or.inl ⟨by rfl, ?hz2⟩) (by assumption) ?rezt2
                case hz2 => (intro w' hSw; (try dsimp only at hSw); go_simp; try with_reducible rfl)
                try simp only [Act.put, List.setIfInBounds_toArray, List.set_cons_zero, List.set_cons_succ, List.getElem_toArray, List.getElem_cons_zero, List.getElem_cons_succ]
                refine' wpAnyH_take (i := 3) (oi := _) (v := _) rfl (by kernel_rfl) (by kernel_rfl) (by kernel_rfl) (fun _ _ _ h => h) (Or.inl ⟨by rfl, ?hz3⟩) (by assumption) ?rezt3
                case hz3 => (intro w' hSw; (try dsimp only at hSw); go_simp; try with_reducible rfl)
                try simp only [Act.put, List.setIfInBounds_toArray, List.set_cons_zero, List.set_cons_succ, List.getElem_toArray, List.getElem_cons_zero, List.getElem_cons_succ]
                refine' wpAnyH_take (i := 4) (oi := _) (v := _) rfl (by kernel_rfl) (by kernel_rfl) (by kernel_rfl) (fun _ _ _ h => h) (Or.inl ⟨by rfl, ?hz4⟩) (by assumption) ?rezt4
                case hz4 => (intro w' hSw; (try dsimp only at hSw); go_simp; try with_reducible rfl)
                try simp only [Act.put, List.setIfInBounds_toArray, List.set_cons_zero, List.set_cons_succ, List.getElem_toArray, List.getElem_cons_zero, List.getElem_cons_succ]
                refine' wpAnyH_take (i := 5) (oi := _) (v := _) rfl (by kernel_rfl) (by kernel_rfl) (by kernel_rfl) (fun _ _ _ h => h) (Or.inr ⟨by rfl, rfl⟩) (by assumption) ?rezn1
                try simp only [Act.put, List.setIfInBounds_toArray, List.set_cons_zero, List.set_cons_succ, List.getElem_toArray, List.getElem_cons_zero, List.getElem_cons_succ]
                refine' wpAnyH_take (i := 6) (oi := _) (v := _) rfl (by kernel_rfl) (by kernel_rfl) (by kernel_rfl) (fun _ _ _ h => h) (Or.inr ⟨by rfl, rfl⟩) (by assumption) ?rezn2
                try simp only [Act.put, List.setIfInBounds_toArray, List.set_cons_zero, List.set_cons_succ, List.getElem_toArray, List.getElem_cons_zero, List.getElem_cons_succ]
                refine' wpAnyH_take (i := 7) (oi := _) (v := _) rfl (by kernel_rfl) (by kernel_rfl) (by kernel_rfl) (fun _ _ _ h => h) (Or.inr ⟨by rfl, rfl⟩) (by assumption) ?rezn3
                try simp only [Act.put, List.setIfInBounds_toArray, List.set_cons_zero, List.set_cons_succ, List.getElem_toArray, List.getElem_cons_zero, List.getElem_cons_succ]
                refine' wpAnyH_take (i := 8) (oi := _) (v := _) rfl (by kernel_rfl) (by kernel_rfl) (by kernel_rfl) (fun _ _ _ h => h) (Or.inr ⟨by rfl, rfl⟩) (by assumption) ?rezn4
                try simp only [Act.put, List.setIfInBounds_toArray, List.set_cons_zero, List.set_cons_succ, List.getElem_toArray, List.getElem_cons_zero, List.getElem_cons_succ]
                refine' wpAnyH_take (i := 9) (oi := _) (v := _) rfl (by kernel_rfl) (by kernel_rfl) (by kernel_rfl) (fun _ _ _ h => h) (Or.inr ⟨by rfl, rfl⟩) (by assumption) ?rezn5
                try simp only [Act.put, List.setIfInBounds_toArray, List.set_cons_zero, List.set_cons_succ, List.getElem_toArray, List.getElem_cons_zero, List.getElem_cons_succ]
                refine' wpAnyH_take (i := 10) (oi := _) (v := _) rfl (by kernel_rfl) (by kernel_rfl) (by kernel_rfl) (fun _ _ _ h => h) (Or.inr ⟨by rfl, rfl⟩) (by assumption) ?rezn6
                try simp only [Act.put, List.setIfInBounds_toArray, List.set_cons_zero, List.set_cons_succ, List.getElem_toArray, List.getElem_cons_zero, List.getElem_cons_succ]
                refine' wpAnyH_take (i := 11) (oi := _) (v := _) rfl (by kernel_rfl) (by kernel_rfl) (by kernel_rfl) (fun _ _ _ h => h) (Or.inr ⟨by rfl, rfl⟩) (by assumption) ?rezn7
                try simp only [Act.put, List.setIfInBounds_toArray, List.set_cons_zero, List.set_cons_succ, List.getElem_toArray, List.getElem_cons_zero, List.getElem_cons_succ]
                refine' wpAnyH_take (i := 12) (oi := _) (v := _) rfl (by kernel_rfl) (by kernel_rfl) (by kernel_rfl) (fun _ _ _ h => h) (Or.inr ⟨by rfl, rfl⟩) (by assumption) ?rezn8
                try simp only [Act.put, List.setIfInBounds_toArray, List.set_cons_zero, List.set_cons_succ, List.getElem_toArray, List.getElem_cons_zero, List.getElem_cons_succ]
                refine' wpAnyH_take (i := 13) (oi := _) (v := _) rfl (by kernel_rfl) (by kernel_rfl) (by kernel_rfl) (fun _ _ _ h => h) (Or.inr ⟨by rfl, rfl⟩) (by assumption) ?rezn9
                try simp only [Act.put, List.setIfInBounds_toArray, List.set_cons_zero, List.set_cons_succ, List.getElem_toArray, List.getElem_cons_zero, List.getElem_cons_succ]
                refine' wpAnyH_take (i := 14) (oi := _) (v := _) rfl (by kernel_rfl) (by kernel_rfl) (by kernel_rfl) (fun _ _ _ h => h) (Or.inr ⟨by rfl, rfl⟩) (by assumption) ?rezn10
                try simp only [Act.put, List.setIfInBounds_toArray, List.set_cons_zero, List.set_cons_succ, List.getElem_toArray, List.getElem_cons_zero, List.getElem_cons_succ]
                refine' wpAnyH_take (i := 15) (oi := _) (v := _) rfl (by kernel_rfl) (by kernel_rfl) (by kernel_rfl) (fun _ _ _ h => h) (Or.inr ⟨by rfl, rfl⟩) (by assumption) ?rezn11
                try simp only [Act.put, List.setIfInBounds_toArray, List.set_cons_zero, List.set_cons_succ, List.getElem_toArray, List.getElem_cons_zero, List.getElem_cons_succ]
                refine' wpAnyH_take (i := 16) (oi := _) (v := _) rfl (by kernel_rfl) (by kernel_rfl) (by kernel_rfl) (fun _ _ _ h => h) (Or.inr ⟨by rfl, rfl⟩) (by assumption) ?rezn12
                try simp only [Act.put, List.setIfInBounds_toArray, List.set_cons_zero, List.set_cons_succ, List.getElem_toArray, List.getElem_cons_zero, List.getElem_cons_succ]
                refine' wpAnyH_take (i := 17) (oi := _) (v := _) rfl (by kernel_rfl) (by kernel_rfl) (by kernel_rfl) (fun _ _ _ h => h) (Or.inl ⟨by rfl, ?hz5⟩) (by assumption) ?rezt5
                case hz5 => (intro w' hSw; (try dsimp only at hSw); go_simp; try with_reducible rfl)
                try simp only [Act.put, List.setIfInBounds_toArray, List.set_cons_zero, List.set_cons_succ, List.getElem_toArray, List.getElem_cons_zero, List.getElem_cons_succ]
                refine' wpAnyH_take (i := 18) (oi := _) (v := _) rfl (by kernel_rfl) (by kernel_rfl) (by kernel_rfl) (fun _ _ _ h => h) (Or.inl ⟨by rfl, ?hz6⟩) (by assumption) ?rezt6
                case hz6 => (intro w' hSw; (try dsimp only at hSw); go_simp; try with_reducible rfl)
                try simp only [Act.put, List.setIfInBounds_toArray, List.set_cons_zero, List.set_cons_succ, List.getElem_toArray, List.getElem_cons_zero, List.getElem_cons_succ]
                refine' wpAnyH_take (i := 19) (oi := _) (v := _) rfl (by kernel_rfl) (by kernel_rfl) (by kernel_rfl) (fun _ _ _ h => h) (Or.inl ⟨by rfl, ?hz7⟩) (by assumption) ?rezt7
                case hz7 => (intro w' hSw; (try dsimp only at hSw); go_simp; try with_reducible rfl)
                try simp only [Act.put, List.setIfInBounds_toArray, List.set_cons_zero, List.set_cons_succ, List.getElem_toArray, List.getElem_cons_zero, List.getElem_cons_succ]
                refine wpAnyH_done (by kernel_rfl) ?_ _
                go_wp2_with fail
                rw [HRR.out]
                exact ⟨rfl, hb0b.trans (hbl'.mono hzb)⟩
              · obtain ⟨N2, hN2⟩ : ∃ N2 : Nat, rm = (N2 : Int) := ⟨rm.toNat, by omega⟩
                have HFI := Lib.hid (ins_fits M.pack N2 (by rw [pack_room, HRM.out, hN2]))
                clear HRM HN1
                subst hN2
                have hmk := run_mk N2 N2 (Nat.le_refl _) (by omega)
                have hN2m : N2 ≤ 1000000 := by omega
                go_upto_region 31 with fail
                refine wp_region_held_drew (S := (fun W => True)) (by kernel_rfl) ?_ (fun hHeld => ?_)
                · trivial
                refine wpAnyH_ready (rs := [0]) (by kernel_rfl) (by simp) ?_
                refine AllReadyH.cons (o := _) rfl (fun K hK => ?_) AllReadyH.nil
                go_simp
                go_at_call 16
                refine (live_any _ _ rfl).mono ?_
                rintro e wl ⟨rfl, hbl⟩
                have hbl' : Below wb.heap.size wb wl := ((Below.refl _ wb).drew).trans (hbl.mono (Nat.le_refl _))
                clear hbl
                refine hK.out _ _ ?_ (fun hHeld => ?_)
                · trivial
                clear hK K
                try simp only [Act.put, List.setIfInBounds_toArray, List.set_cons_zero, List.set_cons_succ, List.getElem_toArray, List.getElem_cons_zero, List.getElem_cons_succ]
                refine' wpAnyH_take (i := 1) (oi := _) (v := _) rfl (by kernel_rfl) (by kernel_rfl) (by kernel_rfl) (fun _ _ _ h => h) (Or.inl ⟨by rfl, ?hz8⟩) (by assumption) ?rezt8
                case hz8 => (intro w' hSw; (try dsimp only at hSw); go_simp; try with_reducible rfl)
                try simp only [Act.put, List.setIfInBounds_toArray, List.set_cons_zero, List.set_cons_succ, List.getElem_toArray, List.getElem_cons_zero, List.getElem_cons_succ]
                refine' wpAnyH_take (i := 2) (oi := _) (v := _) rfl (by kernel_rfl) (by kernel_rfl) (by kernel_rfl) (fun _ _ _ h => h) (Or.inl ⟨by rfl, ?hz9⟩) (by assumption) ?rezt9
                case hz9 => (intro w' hSw; (try dsimp only at hSw); go_simp; try with_reducible rfl)
                try simp only [Act.put, List.setIfInBounds_toArray, List.set_cons_zero, List.set_cons_succ, List.getElem_toArray, List.getElem_cons_zero, List.getElem_cons_succ]
                refine' wpAnyH_take (i := 3) (oi := _) (v := _) rfl (by kernel_rfl) (by kernel_rfl) (by kernel_rfl) (fun _ _ _ h => h) (Or.inl ⟨by rfl, ?hz10⟩) (by assumption) ?rezt10
                case hz10 => (intro w' hSw; (try dsimp only at hSw); go_simp; try with_reducible rfl)
                try simp only [Act.put, List.setIfInBounds_toArray, List.set_cons_zero, List.set_cons_succ, List.getElem_toArray, List.getElem_cons_zero, List.getElem_cons_succ]
                refine' wpAnyH_take (i := 4) (oi := _) (v := _) rfl (by kernel_rfl) (by kernel_rfl) (by kernel_rfl) (fun _ _ _ h => h) (Or.inl ⟨by rfl, ?hz11⟩) (by assumption) ?rezt11
                case hz11 => (intro w' hSw; (try dsimp only at hSw); go_simp; try with_reducible rfl)
                try simp only [Act.put, List.setIfInBounds_toArray, List.set_cons_zero, List.set_cons_succ, List.getElem_toArray, List.getElem_cons_zero, List.getElem_cons_succ]
                refine' wpAnyH_take (i := 5) (oi := _) (v := _) rfl (by kernel_rfl) (by kernel_rfl) (by kernel_rfl) (fun _ _ _ h => h) (Or.inl ⟨by rfl, ?hz12⟩) (by assumption) ?rezt12
                case hz12 => (intro w' hSw; (try dsimp only at hSw); go_simp; try with_reducible rfl)
                try simp only [Act.put, List.setIfInBounds_toArray, List.set_cons_zero, List.set_cons_succ, List.getElem_toArray, List.getElem_cons_zero, List.getElem_cons_succ]
                refine' wpAnyH_take (i := 6) (oi := _) (v := _) rfl (by kernel_rfl) (by kernel_rfl) (by kernel_rfl) (fun _ _ _ h => h) (Or.inl ⟨by rfl, ?hz13⟩) (by assumption) ?rezt13
                case hz13 => (intro w' hSw; (try dsimp only at hSw); go_simp; try with_reducible rfl)
                try simp only [Act.put, List.setIfInBounds_toArray, List.set_cons_zero, List.set_cons_succ, List.getElem_toArray, List.getElem_cons_zero, List.getElem_cons_succ]
                refine' wpAnyH_take (i := 8) (oi := _) (v := _) rfl (by kernel_rfl) (by kernel_rfl) (by kernel_rfl) (fun _ _ _ h => h) (Or.inl ⟨by rfl, ?hz14⟩) (by assumption) ?rezt14
                case hz14 => (intro w' hSw; (try dsimp only at hSw); go_simp; try with_reducible rfl)
                try simp only [Act.put, List.setIfInBounds_toArray, List.set_cons_zero, List.set_cons_succ, List.getElem_toArray, List.getElem_cons_zero, List.getElem_cons_succ]
                have HPL := Lib.hid (HPB.out.keep hbl')
                have hb0l : Below w.heap.size w wl := hb0b.trans (hbl'.mono hzb)
                have hzl := hb0l.size
                have hgll := HPL.out.lt
                obtain ⟨W2, hW2⟩ : ∃ W, W = wl.alloc (.cells (zrs N2) 5) := ⟨_, rfl⟩
                have hbW : Below wl.heap.size wl W2 := by rw [hW2]; exact (Below.refl _ _).alloc (Nat.le_refl _) _
                have HOW := Lib.hid (show OwnB W2 wl.heap.size (some ⟨wl.heap.size, 0, none⟩) N2 N2 (List.replicate N2 0) by rw [hW2]; exact OwnB.zeros wl _ N2 (Nat.le_refl _) (by unfold maxLen; omega))
                have HPW := Lib.hid (HPL.out.keep hbW)
                have hb0W : Below w.heap.size w W2 := hb0l.trans (hbW.mono hzl)
                have HW := Lib.hid hW2
                clear hW2
                refine wpAnyH_ready (rs := [7, 9]) (by kernel_rfl) (by simp) ?_
                refine AllReadyH.cons (o := _) rfl (fun K hK => ?_) (AllReadyH.cons (o := _) rfl (fun K hK => ?_) AllReadyH.nil)
                · go_simp
                  go_at_call 22
                  refine (pMany_any _ g gb N Lb [] M.pack HPL.out HIB.out HG4.out).mono ?_
                  rintro e wm ⟨rfl, rfl⟩
                  rw [pack_k]
                  refine hK.out _ _ ?_ (fun hHeld => ?_)
                  · trivial
                  clear hK K
                  try simp only [Act.put, List.setIfInBounds_toArray, List.set_cons_zero, List.set_cons_succ, List.getElem_toArray, List.getElem_cons_zero, List.getElem_cons_succ]
                  refine wpAnyH_ready (rs := [9]) (by kernel_rfl) (by simp) ?_
                  refine AllReadyH.cons (o := _) rfl (fun K hK => ?_) AllReadyH.nil
                  go_simp
                  rw [← HW.out]
                  clear HW hmk
                  refine hK.out _ _ ?_ (fun hHeld => ?_)
                  · trivial
                  clear hK K
                  try simp only [Act.put, List.setIfInBounds_toArray, List.set_cons_zero, List.set_cons_succ, List.getElem_toArray, List.getElem_cons_zero, List.getElem_cons_succ]
                  refine wpAnyH_ready (rs := [10]) (by kernel_rfl) (by simp) ?_
                  refine AllReadyH.cons (o := _) rfl (fun K hK => ?_) AllReadyH.nil
                  go_simp
                  go_at_call 29
                  refine (pIns_any _ g gb N Lb [] M.pack HPW.out HIB.out HG4.out (M.k : Int) (by omega) (by omega) _ N2 N2 (List.replicate N2 0) (by simp) hN2m HOW.out.rd (isB_zeros N2) (by intro a ha _; injection ha with ha; subst ha; show wl.heap.size ≠ gb; omega) _ rfl).mono ?_
                  rintro e wi ⟨rfl, hgi, Li, ⟨hpi, hmi⟩, hii⟩
                  have e0 : (insM M.pack (M.k : Int) (List.replicate N2 0)).2 = 0 := HFI.out.1
                  rw [e0]
                  obtain ⟨Mi, hMi⟩ : ∃ Z, (insM M.pack (M.k : Int) (List.replicate N2 0)).1 = Z := ⟨_, rfl⟩
                  have hroom : Mi.room = -1 := by rw [← hMi]; exact HFI.out.2
                  rw [hMi] at hgi hpi hii
                  have hb0i : Below w.heap.size w wi := hmi.below hb0W hgb0 hb0W.size
                  have HPI := Lib.hid hpi
                  have HII := Lib.hid hii
                  have HGI := Lib.hid hgi
                  clear hMi hpi hii hgi hmi e0
                  refine hK.out _ _ ?_ (fun hHeld => ?_)
                  · trivial
                  clear hK K
                  try simp only [Act.put, List.setIfInBounds_toArray, List.set_cons_zero, List.set_cons_succ, List.getElem_toArray, List.getElem_cons_zero, List.getElem_cons_succ]
                  have z0 : ((0 : Int) == 0) = true := rfl
                  refine' wpAnyH_take (i := 11) (oi := _) (v := _) rfl (by kernel_rfl) (by kernel_rfl) (by kernel_rfl) (fun _ _ _ h => h) (Or.inl ⟨by rfl, ?hz15⟩) (by assumption) ?rezt15
                  case hz15 => (intro w' hSw; (try dsimp only at hSw); go_simp; try with_reducible rfl)
                  try simp only [Act.put, List.setIfInBounds_toArray, List.set_cons_zero, List.set_cons_succ, List.getElem_toArray, List.getElem_cons_zero, List.getElem_cons_succ]
                  refine' wpAnyH_take (i := 12) (oi := _) (v := _) rfl (by kernel_rfl) (by kernel_rfl) (by kernel_rfl) (fun _ _ _ h => h) (Or.inl ⟨by rfl, ?hz16⟩) (by assumption) ?rezt16
                  case hz16 => (intro w' hSw; (try dsimp only at hSw); go_simp; try with_reducible rfl)
                  try simp only [Act.put, List.setIfInBounds_toArray, List.set_cons_zero, List.set_cons_succ, List.getElem_toArray, List.getElem_cons_zero, List.getElem_cons_succ]
                  refine' wpAnyH_take (i := 13) (oi := _) (v := _) rfl (by kernel_rfl) (by kernel_rfl) (by kernel_rfl) (fun _ _ _ h => h) (Or.inl ⟨by rfl, ?hz17⟩) (by assumption) ?rezt17
                  case hz17 => (intro w' hSw; (try dsimp only at hSw); go_simp; try with_reducible rfl)
                  try simp only [Act.put, List.setIfInBounds_toArray, List.set_cons_zero, List.set_cons_succ, List.getElem_toArray, List.getElem_cons_zero, List.getElem_cons_succ]
                  refine wpAnyH_ready (rs := [14]) (by kernel_rfl) (by simp) ?_
                  refine AllReadyH.cons (o := _) rfl (fun K hK => ?_) AllReadyH.nil
                  go_simp
                  go_at_call 27
                  refine (pRoom_any _ g gb N Li [] Mi HPI.out HII.out HGI.out).mono ?_
                  rintro e wj ⟨rfl, hbj⟩
                  rw [hroom]
                  have hb0j : Below w.heap.size w wj := hb0i.trans (hbj.mono hb0i.size)
                  clear hbj
                  refine hK.out _ _ ?_ (fun hHeld => ?_)
                  · trivial
                  clear hK K
                  try simp only [Act.put, List.setIfInBounds_toArray, List.set_cons_zero, List.set_cons_succ, List.getElem_toArray, List.getElem_cons_zero, List.getElem_cons_succ]
                  have z6 : ((-1 : Int) == -1) = true := rfl
                  refine' wpAnyH_take (i := 15) (oi := _) (v := _) rfl (by kernel_rfl) (by kernel_rfl) (by kernel_rfl) (fun _ _ _ h => h) (Or.inl ⟨by rfl, ?hz18⟩) (by assumption) ?rezt18
                  case hz18 => (intro w' hSw; (try dsimp only at hSw); go_simp; try with_reducible rfl)
                  try simp only [Act.put, List.setIfInBounds_toArray, List.set_cons_zero, List.set_cons_succ, List.getElem_toArray, List.getElem_cons_zero, List.getElem_cons_succ]
                  refine' wpAnyH_take (i := 16) (oi := _) (v := _) rfl (by kernel_rfl) (by kernel_rfl) (by kernel_rfl) (fun _ _ _ h => h) (Or.inl ⟨by rfl, ?hz19⟩) (by assumption) ?rezt19
                  case hz19 => (intro w' hSw; (try dsimp only at hSw); go_simp; try with_reducible rfl)
                  try simp only [Act.put, List.setIfInBounds_toArray, List.set_cons_zero, List.set_cons_succ, List.getElem_toArray, List.getElem_cons_zero, List.getElem_cons_succ]
                  refine' wpAnyH_take (i := 17) (oi := _) (v := _) rfl (by kernel_rfl) (by kernel_rfl) (by kernel_rfl) (fun _ _ _ h => h) (Or.inl ⟨by rfl, ?hz20⟩) (by assumption) ?rezt20
                  case hz20 => (intro w' hSw; (try dsimp only at hSw); go_simp; try with_reducible rfl)
                  try simp only [Act.put, List.setIfInBounds_toArray, List.set_cons_zero, List.set_cons_succ, List.getElem_toArray, List.getElem_cons_zero, List.getElem_cons_succ]
                  refine' wpAnyH_take (i := 18) (oi := _) (v := _) rfl (by kernel_rfl) (by kernel_rfl) (by kernel_rfl) (fun _ _ _ h => h) (Or.inl ⟨by rfl, ?hz21⟩) (by assumption) ?rezt21
                  case hz21 => (intro w' hSw; (try dsimp only at hSw); go_simp; try with_reducible rfl)
                  try simp only [Act.put, List.setIfInBounds_toArray, List.set_cons_zero, List.set_cons_succ, List.getElem_toArray, List.getElem_cons_zero, List.getElem_cons_succ]
                  refine' wpAnyH_take (i := 19) (oi := _) (v := _) rfl (by kernel_rfl) (by kernel_rfl) (by kernel_rfl) (fun _ _ _ h => h) (Or.inl ⟨by rfl, ?hz22⟩) (by assumption) ?rezt22
                  case hz22 => (intro w' hSw; (try dsimp only at hSw); go_simp; try with_reducible rfl)
                  try simp only [Act.put, List.setIfInBounds_toArray, List.set_cons_zero, List.set_cons_succ, List.getElem_toArray, List.getElem_cons_zero, List.getElem_cons_succ]
                  refine wpAnyH_done (by kernel_rfl) ?_ _
                  go_wp2_with fail
                  rw [HRR.out]
                  exact ⟨rfl, hb0j⟩
                · go_simp
                  rw [← HW.out]
                  clear HW hmk
                  refine hK.out _ _ ?_ (fun hHeld => ?_)
                  · trivial
                  clear hK K
                  try simp only [Act.put, List.setIfInBounds_toArray, List.set_cons_zero, List.set_cons_succ, List.getElem_toArray, List.getElem_cons_zero, List.getElem_cons_succ]
                  refine wpAnyH_ready (rs := [7]) (by kernel_rfl) (by simp) ?_
                  refine AllReadyH.cons (o := _) rfl (fun K hK => ?_) AllReadyH.nil
                  go_simp
                  go_at_call 22
                  refine (pMany_any _ g gb N Lb [] M.pack HPW.out HIB.out HG4.out).mono ?_
                  rintro e wm ⟨rfl, rfl⟩
                  rw [pack_k]
                  refine hK.out _ _ ?_ (fun hHeld => ?_)
                  · trivial
                  clear hK K
                  try simp only [Act.put, List.setIfInBounds_toArray, List.set_cons_zero, List.set_cons_succ, List.getElem_toArray, List.getElem_cons_zero, List.getElem_cons_succ]
                  refine wpAnyH_ready (rs := [10]) (by kernel_rfl) (by simp) ?_
                  refine AllReadyH.cons (o := _) rfl (fun K hK => ?_) AllReadyH.nil
                  go_simp
                  go_at_call 29
                  refine (pIns_any _ g gb N Lb [] M.pack HPW.out HIB.out HG4.out (M.k : Int) (by omega) (by omega) _ N2 N2 (List.replicate N2 0) (by simp) hN2m HOW.out.rd (isB_zeros N2) (by intro a ha _; injection ha with ha; subst ha; show wl.heap.size ≠ gb; omega) _ rfl).mono ?_
                  rintro e wi ⟨rfl, hgi, Li, ⟨hpi, hmi⟩, hii⟩
                  have e0 : (insM M.pack (M.k : Int) (List.replicate N2 0)).2 = 0 := HFI.out.1
                  rw [e0]
                  obtain ⟨Mi, hMi⟩ : ∃ Z, (insM M.pack (M.k : Int) (List.replicate N2 0)).1 = Z := ⟨_, rfl⟩
                  have hroom : Mi.room = -1 := by rw [← hMi]; exact HFI.out.2
                  rw [hMi] at hgi hpi hii
                  have hb0i : Below w.heap.size w wi := hmi.below hb0W hgb0 hb0W.size
                  have HPI := Lib.hid hpi
                  have HII := Lib.hid hii
                  have HGI := Lib.hid hgi
                  clear hMi hpi hii hgi hmi e0
                  refine hK.out _ _ ?_ (fun hHeld => ?_)
                  · trivial
                  clear hK K
                  try simp only [Act.put, List.setIfInBounds_toArray, List.set_cons_zero, List.set_cons_succ, List.getElem_toArray, List.getElem_cons_zero, List.getElem_cons_succ]
                  have z0 : ((0 : Int) == 0) = true := rfl
                  refine' wpAnyH_take (i := 11) (oi := _) (v := _) rfl (by kernel_rfl) (by kernel_rfl) (by kernel_rfl) (fun _ _ _ h => h) (Or.inl ⟨by rfl, ?hz23⟩) (by assumption) ?rezt23
                  case hz23 => (intro w' hSw; (try dsimp only at hSw); go_simp; try with_reducible rfl)
                  try simp only [Act.put, List.setIfInBounds_toArray, List.set_cons_zero, List.set_cons_succ, List.getElem_toArray, List.getElem_cons_zero, List.getElem_cons_succ]
                  refine' wpAnyH_take (i := 12) (oi := _) (v := _) rfl (by kernel_rfl) (by kernel_rfl) (by kernel_rfl) (fun _ _ _ h => h) (Or.inl ⟨by rfl, ?hz24⟩) (by assumption) ?rezt24
                  case hz24 => (intro w' hSw; (try dsimp only at hSw); go_simp; try with_reducible rfl)
                  try simp only [Act.put, List.setIfInBounds_toArray, List.set_cons_zero, List.set_cons_succ, List.getElem_toArray, List.getElem_cons_zero, List.getElem_cons_succ]
                  refine' wpAnyH_take (i := 13) (oi := _) (v := _) rfl (by kernel_rfl) (by kernel_rfl) (by kernel_rfl) (fun _ _ _ h => h) (Or.inl ⟨by rfl, ?hz25⟩) (by assumption) ?rezt25
                  case hz25 => (intro w' hSw; (try dsimp only at hSw); go_simp; try with_reducible rfl)
                  try simp only [Act.put, List.setIfInBounds_toArray, List.set_cons_zero, List.set_cons_succ, List.getElem_toArray, List.getElem_cons_zero, List.getElem_cons_succ]
                  refine wpAnyH_ready (rs := [14]) (by kernel_rfl) (by simp) ?_
                  refine AllReadyH.cons (o := _) rfl (fun K hK => ?_) AllReadyH.nil
                  go_simp
                  go_at_call 27
                  refine (pRoom_any _ g gb N Li [] Mi HPI.out HII.out HGI.out).mono ?_
                  rintro e wj ⟨rfl, hbj⟩
                  rw [hroom]
                  have hb0j : Below w.heap.size w wj := hb0i.trans (hbj.mono hb0i.size)
                  clear hbj
                  refine hK.out _ _ ?_ (fun hHeld => ?_)
                  · trivial
                  clear hK K
                  try simp only [Act.put, List.setIfInBounds_toArray, List.set_cons_zero, List.set_cons_succ, List.getElem_toArray, List.getElem_cons_zero, List.getElem_cons_succ]
                  have z6 : ((-1 : Int) == -1) = true := rfl
                  refine' wpAnyH_take (i := 15) (oi := _) (v := _) rfl (by kernel_rfl) (by kernel_rfl) (by kernel_rfl) (fun _ _ _ h => h) (Or.inl ⟨by rfl, ?hz26⟩) (by assumption) ?rezt26
                  case hz26 => (intro w' hSw; (try dsimp only at hSw); go_simp; try with_reducible rfl)
                  try simp only [Act.put, List.setIfInBounds_toArray, List.set_cons_zero, List.set_cons_succ, List.getElem_toArray, List.getElem_cons_zero, List.getElem_cons_succ]
                  refine' wpAnyH_take (i := 16) (oi := _) (v := _) rfl (by kernel_rfl) (by kernel_rfl) (by kernel_rfl) (fun _ _ _ h => h) (Or.inl ⟨by rfl, ?hz27⟩) (by assumption) ?rezt27
                  case hz27 => (intro w' hSw; (try dsimp only at hSw); go_simp; try with_reducible rfl)
                  try simp only [Act.put, List.setIfInBounds_toArray, List.set_cons_zero, List.set_cons_succ, List.getElem_toArray, List.getElem_cons_zero, List.getElem_cons_succ]
                  refine' wpAnyH_take (i := 17) (oi := _) (v := _) rfl (by kernel_rfl) (by kernel_rfl) (by kernel_rfl) (fun _ _ _ h => h) (Or.inl ⟨by rfl, ?hz28⟩) (by assumption) ?rezt28
                  case hz28 => (intro w' hSw; (try dsimp only at hSw); go_simp; try with_reducible rfl)
                  try simp only [Act.put, List.setIfInBounds_toArray, List.set_cons_zero, List.set_cons_succ, List.getElem_toArray, List.getElem_cons_zero, List.getElem_cons_succ]
                  refine' wpAnyH_take (i := 18) (oi := _) (v := _) rfl (by kernel_rfl) (by kernel_rfl) (by kernel_rfl) (fun _ _ _ h => h) (Or.inl ⟨by rfl, ?hz29⟩) (by assumption) ?rezt29
                  case hz29 => (intro w' hSw; (try dsimp only at hSw); go_simp; try with_reducible rfl)
                  try simp only [Act.put, List.setIfInBounds_toArray, List.set_cons_zero, List.set_cons_succ, List.getElem_toArray, List.getElem_cons_zero, List.getElem_cons_succ]
                  refine' wpAnyH_take (i := 19) (oi := _) (v := _) rfl (by kernel_rfl) (by kernel_rfl) (by kernel_rfl) (fun _ _ _ h => h) (Or.inl ⟨by rfl, ?hz30⟩) (by assumption) ?rezt30
                  case hz30 => (intro w' hSw; (try dsimp only at hSw); go_simp; try with_reducible rfl)
                  try simp only [Act.put, List.setIfInBounds_toArray, List.set_cons_zero, List.set_cons_succ, List.getElem_toArray, List.getElem_cons_zero, List.getElem_cons_succ]
                  refine wpAnyH_done (by kernel_rfl) ?_ _
                  go_wp2_with fail
                  rw [HRR.out]
                  exact ⟨rfl, hb0j⟩
end Go.Proofs.Ytoeaffmlolapnaa
