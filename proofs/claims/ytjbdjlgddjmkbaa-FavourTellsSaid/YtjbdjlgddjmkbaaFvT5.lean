/- Walk of the reference: Bear. -/
import Derived.Test.YtjbdjlgddjmkbaaFvT4
import Derived.Test.YtjbdjlgddjmkbaaFvTq
import Derived.Test.YtjbdjlgddjmkbaaFvB3
namespace Go.Proofs.Ytjbdjlgddjmkbaa
open Go.RowKit
set_option maxRecDepth 20000 in
set_option maxHeartbeats 4000000 in
theorem rbear_no (L : Sl Bal) (s : Sl Int) (t : Int) (w : World) (hL : Rd (· < w.heap.size) 2 Bal.enc w L) (hr : Rd (· < w.heap.size) 1 ienc w s) (hl : L.l.length ≤ 900) (hf : fineB L.l s.l t = false) :
    Calls Try.prog 11 #[.slice L.A L.l.length L.c, .slice s.A s.l.length s.c, .int .i64 t] w (BearPost L s t w) := by
  have HF := Lib.hid hf
  rcases h1 : rightL L.l
  · have HRL := Lib.hid h1
    clear h1 hf
    have HL := Lib.hid hL
    have HR := Lib.hid hr
    clear hL hr
    go_enter Try.func11, Try.ntmps11
    go_wp2_with fail
    refine (rright_any L _ HL.out (by omega)).mono ?_
    rintro e w1 ⟨rfl, hB1⟩
    rw [HRL.out]
    go_wp2_with fail
    go_ret3
    exact bearPost_no HF.out rfl hB1
  · have HRL := Lib.hid h1
    rcases h2 : ridesL s.l
    · have HRI := Lib.hid h2
      clear h1 h2 hf
      have HL := Lib.hid hL
      have HR := Lib.hid hr
      clear hL hr
      go_enter Try.func11, Try.ntmps11
      go_wp2_with fail
      refine (rright_any L _ HL.out (by omega)).mono ?_
      rintro e w1 ⟨rfl, hB1⟩
      rw [HRL.out]
      go_wp2_with fail
      refine (rriders_any s _ (HR.out.later hB1 (Nat.le_refl _))).mono ?_
      rintro e w2 ⟨rfl, hb2⟩
      have hB2 : Below w.heap.size w w2 := below_via hb2 hB1
      clear hb2
      rw [HRI.out]
      go_wp2_with fail
      go_ret3
      exact bearPost_no HF.out rfl hB2
    · have HRI := Lib.hid h2
      have h3 : rngB t 0 1048576 = false := by
        unfold fineB at hf
        rw [h1, h2] at hf
        simpa using hf
      have HIN := Lib.hid h3
      clear h1 h2 hf h3
      have HL := Lib.hid hL
      have HR := Lib.hid hr
      clear hL hr
      go_enter Try.func11, Try.ntmps11
      go_wp2_with fail
      refine (rright_any L _ HL.out (by omega)).mono ?_
      rintro e w1 ⟨rfl, hB1⟩
      rw [HRL.out]
      go_wp2_with fail
      refine (rriders_any s _ (HR.out.later hB1 (Nat.le_refl _))).mono ?_
      rintro e w2 ⟨rfl, hb2⟩
      have hB2 : Below w.heap.size w w2 := below_via hb2 hB1
      clear hb2
      rw [HRI.out]
      go_wp2_with fail
      refine (in_any _ _ _ _).mono ?_
      rintro e w' ⟨rfl, rfl⟩
      rw [HIN.out]
      go_wp2_with fail
      go_ret3
      exact bearPost_no HF.out rfl hB2
set_option maxRecDepth 20000 in
set_option maxHeartbeats 4000000 in
theorem rbear_yes (L : Sl Bal) (s : Sl Int) (t : Int) (w : World) (hL : Rd (· < w.heap.size) 2 Bal.enc w L) (hr : Rd (· < w.heap.size) 1 ienc w s) (hl : L.l.length ≤ 900) (hf : fineB L.l s.l t = true) :
    Calls Try.prog 11 #[.slice L.A L.l.length L.c, .slice s.A s.l.length s.c, .int .i64 t] w (BearPost L s t w) := by
  have HF := Lib.hid hf
  obtain ⟨h1, h2, ht0, ht1⟩ := fineB_iff.1 hf
  have HRL := Lib.hid h1
  have HRI := Lib.hid h2
  obtain ⟨r1, r2, r3, r4⟩ := ridesL_iff.1 h2
  have HND := Lib.hid r3
  have HIN : Hid (rngB t 0 1048576 = true) := Lib.hid (rngB_iff.2 ⟨ht0, ht1⟩)
  have HRAW := Lib.hid (raw_ok hf)
  clear h1 h2 hf r3 r4
  have HL := Lib.hid hL
  have HR := Lib.hid hr
  clear hL hr
  go_enter Try.func11, Try.ntmps11
  go_wp2_with fail
  refine (rright_any L _ HL.out (by omega)).mono ?_
  rintro e w1 ⟨rfl, hB1⟩
  rw [HRL.out]
  go_wp2_with fail
  refine (rriders_any s _ (HR.out.later hB1 (Nat.le_refl _))).mono ?_
  rintro e w2 ⟨rfl, hb2⟩
  have hB2 : Below w.heap.size w w2 := below_via hb2 hB1
  clear hb2
  rw [HRI.out]
  go_wp2_with fail
  refine (in_any _ _ _ _).mono ?_
  rintro e w' ⟨rfl, rfl⟩
  rw [HIN.out]
  obtain ⟨SA, sc, l⟩ := s
  simp only at HR HRI HND HF HRAW r1 r2 ⊢
  obtain ⟨b, o, rfl, hb, hcl0⟩ := HR.out.at1 (i := 0) (by show 0 < l.length; omega)
  have g0 := (hcl0.keep (hB2.block b hb)).c1
  simp only [Nat.zero_mul, Nat.add_zero] at g0
  have hle : leastF L.l (l[0]'(by omega)) l = bearerF L.l l := by
    rcases l with _ | ⟨x, r⟩
    · simp at r1
    · exact leastF_self L.l x r
  generalize l[0]'(by omega) = x0 at *
  have HLE := Lib.hid hle
  generalize hn : l.length = n at *
  have HN := Lib.hid hn
  obtain ⟨m, rfl⟩ : ∃ m, n = m + 1 := ⟨n - 1, by omega⟩
  clear hle hn hcl0
  go_wp2_with fail
  go_loopw [9, 10] (fun vb vi wr => ∃ (k : Nat) (x : Int), k ≤ m + 1 ∧ vi = .int .i64 k ∧ vb = .int .i64 x ∧ Hid (leastF L.l x (l.drop k) = bearerF L.l l) ∧ Below w.heap.size w wr) (fun _ vi _ => m + 1 - (intOf vi).toNat)
  case atStart => exact ⟨0, x0, by omega, rfl, rfl, Lib.hid (by simpa using HLE.out), hB2⟩
  case round =>
    obtain ⟨k, x, hk, rfl, rfl, HG, hbel⟩ := hrel
    have hhe : w.heap.size ≤ wr.heap.size := hbel.size
    by_cases hlt : k < m + 1
    · have hkl : k < l.length := by have := HN.out; omega
      obtain ⟨b2, o2, hA, hb2, hcl⟩ := HR.out.at1 hkl
      simp only [Option.some.injEq, Addr.mk.injEq, and_true] at hA
      obtain ⟨rfl, rfl⟩ := hA
      have k0 := (hcl.keep (hbel.block b hb2)).c1
      have hdr : l.drop k = l[k] :: l.drop (k + 1) := List.drop_eq_getElem_cons hkl
      have hgo := HG.out
      rw [hdr] at hgo
      simp only [Nat.mul_one] at k0
      simp only [leastF] at hgo
      try simp only at k0
      generalize l[k] = y at *
      have HGO := Lib.hid hgo
      clear hdr hgo hcl HG
      rcases hlo : lowB L.l y x
      · have HLO := Lib.hid hlo
        have HG2 : Hid (leastF L.l x (l.drop (k + 1)) = bearerF L.l l) := Lib.hid (by have := HGO.out; rw [hlo] at this; simpa using this)
        clear hlo HGO
        go_wp2_with fail
        refine (before_low L y x _ (HL.out.later hbel (Nat.le_refl _))).mono ?_
        rintro e w' ⟨rfl, rfl⟩
        rw [HLO.out]
        go_wp2_with fail
        go_roundw
        case rel => exact ⟨k + 1, x, by omega, by go_num, rfl, HG2, hbel⟩
        case measure => simp [intOf]; omega
      · have HLO := Lib.hid hlo
        have HG2 : Hid (leastF L.l y (l.drop (k + 1)) = bearerF L.l l) := Lib.hid (by have := HGO.out; rw [hlo] at this; simpa using this)
        clear hlo HGO
        go_wp2_with fail
        refine (before_low L y x _ (HL.out.later hbel (Nat.le_refl _))).mono ?_
        rintro e w' ⟨rfl, rfl⟩
        rw [HLO.out]
        go_wp2_with fail
        go_roundw
        case rel => exact ⟨k + 1, y, by omega, by go_num, rfl, HG2, hbel⟩
        case measure => simp [intOf]; omega
    · have hkk : k = m + 1 := by omega
      have hbr : bearerF L.l l = x := by
        have := HG.out
        rw [List.drop_eq_nil_of_le (by have := HN.out; omega)] at this
        exact this.symm
      have HBR := Lib.hid hbr
      have hol : (othersF L.l l).length = m := by
        have h1 := HRAW.out.perm.length_eq
        have h2 := HN.out
        simp only [List.length_cons] at h1
        omega
      have HOL := Lib.hid hol
      subst hkk
      clear hbr hol HG hlt HLE
      rcases Nat.eq_zero_or_pos m with rfl | hm0
      · have hou : outF L.l l t = L.l := by unfold outF; rw [if_pos (List.eq_nil_of_length_eq_zero HOL.out)]
        have hva : L.l.all validB = true := List.all_eq_true.2 (fun x hx => (rightL_iff.1 HRL.out).2.1 x hx)
        have HOU := Lib.hid hou
        have HVA := Lib.hid hva
        clear hou hva
        go_wp2_with (at_builtin
                     refine wpl_append_sl _ rfl (.tmp 53) (.tmp 54) _ rfl Try.underlying22 infoBal (by omega) Bal.k Bal.one ⟨some ⟨wr.heap.size, 0, none⟩, 0, []⟩ L rfl rfl (Own.lit wr #[] [] (base := w.heap.size) hhe (by simp [maxLen]) rfl Bal.k) ((HL.out.later hbel (Nat.le_refl _)).lt_alloc _) (by simp [maxLen]; omega) (by simp; omega) (by simp; omega) ?_
                     intro A5 c5 w5 hown5 hg5 hat5
                     apply Hid.out)
        refine Lib.hid ?_
        have hbel5 : Below w.heap.size w w5 := Below.grown (Below.alloc hbel hhe _) hg5 (by simp; omega) (fun j hj => by
          simp [Value.ownBlock] at hj; omega)
        have HO5 := Lib.hid hown5
        simp only [List.nil_append] at HO5 ⊢
        clear hown5 hg5 hat5
        go_wp2_with fail
        go_ret3
        exact bearPost_ok HF.out HVA.out HBR.out HOU.out rfl ((HO5.out.rd Bal.k).mono (fun b hb => hb)) hbel5
      · have hm1 : ((m + 1 : Nat) : Int) - 1 = m := by omega
        go_wp2_with fail
        have hl1 := (rightL_iff.1 HRL.out).1
        have hbdL := fun q => of_valid hl1 (rightL_iff.1 HRL.out).2.1 q
        have hbx := hbdL x
        refine (radd_any L x t _ (HL.out.later hbel (Nat.le_refl _)) hl1 (by omega) (by omega) (by omega)).mono ?_
        rintro e w3 ⟨A3, c3, rfl, ho3, hb3⟩
        have hone : othersF L.l l ≠ [] := fun e => by have := HOL.out; rw [e] at this; simp at this; omega
        have hou0 := outR_zero HRAW.out hl1 hone
        rw [HBR.out] at hou0
        have hlen0 := length_addL (m := x) (d := t) (l := L.l)
        generalize addL x t L.l = ou0 at *
        have HO3 : Hid (Own w.heap.size 39 2 Bal.enc w3 ⟨A3, c3, ou0⟩) := Lib.hid (ho3.mono hhe)
        have HB3 : Hid (Below w.heap.size w w3) := Lib.hid (below_via hb3 hbel)
        have HOU0 := Lib.hid hou0
        have HONE := Lib.hid hone
        have HBDL := Lib.hid hbdL
        have hm6 : (0 : Int) < (m : Int) := by omega
        have hp0 := parts_bd ht0 (n := (m : Int)) (by omega) 0 (by omega)
        have hq0 : 0 ≤ t / (m : Int) := Int.ediv_nonneg ht0 (by omega)
        have hr0 : 0 ≤ t % (m : Int) := Int.emod_nonneg t (by omega)
        have hr1 : t % (m : Int) < (m : Int) := Int.emod_lt_of_pos t hm6
        have hq1 : t / (m : Int) ≤ t := by split at hp0 <;> omega
        have hpk : ∀ k : Nat, (k : Int) < t % (m : Int) → t / (m : Int) + 1 ≤ t := fun k hk => by
          have := parts_bd ht0 (n := (m : Int)) (by omega) (k : Int) (by omega)
          rw [if_pos hk] at this; exact this.2
        have HPK := Lib.hid hpk
        clear hp0 hpk hou0 hone hbdL ho3 hb3 hl1 hbx hbel g0
        go_wp2_with fail
        go_loopw [12, 13] (fun vo vi wr => ∃ (k : Nat) (A' : Option Addr) (c' : Nat) (ou : List Bal), k ≤ m + 1 ∧ vi = .int .i64 k ∧ vo = .slice A' ou.length c' ∧ Hid (Own w.heap.size 39 2 Bal.enc wr ⟨A', c', ou⟩) ∧ Hid (OutR L.l l t k ou) ∧ ou.length ≤ 901 + k ∧ Below w.heap.size w wr) (fun _ vi _ => m + 1 - (intOf vi).toNat)
        case atStart => exact ⟨0, A3, c3, ou0, by omega, rfl, rfl, HO3, HOU0, by omega, HB3.out⟩
        case round =>
          clear hhe
          obtain ⟨k, A', c', ou, hk, rfl, rfl, HOW, HOR, hlen, hbel⟩ := hrel
          have hhe : w.heap.size ≤ wr.heap.size := hbel.size
          by_cases hlt : k < m + 1
          · have hkl : k < l.length := by have := HN.out; omega
            obtain ⟨b2, o2, hA, hb2, hcl⟩ := HR.out.at1 hkl
            simp only [Option.some.injEq, Addr.mk.injEq, and_true] at hA
            obtain ⟨rfl, rfl⟩ := hA
            have k0 := (hcl.keep (hbel.block b hb2)).c1
            have hqk : l[k]? = some l[k] := List.getElem?_eq_getElem hkl
            have hqm : l[k] ∈ l := List.getElem_mem hkl
            simp only [Nat.mul_one] at k0
            try simp only at k0
            have hcq := hcl.c1
            simp only [Nat.mul_one] at hcq
            try simp only at hcq
            generalize l[k] = q at *
            have HQK := Lib.hid hqk
            have HQM := Lib.hid hqm
            have HCQ := Lib.hid hcq
            clear hqk hqm hcl hcq
            by_cases hqx : q = x
            · subst hqx
              have HOR2 : Hid (OutR L.l l t (k + 1) ou) := Lib.hid (outR_skip HOR.out (by rw [HBR.out]; exact HQK.out))
              clear HOR
              go_wp2_with fail
              go_roundw
              case rel => exact ⟨k + 1, A', c', ou, by omega, by go_num, rfl, HOW, HOR2, by omega, hbel⟩
              case measure => simp [intOf]; omega
            · have hne : (q == x) = false := by simpa using hqx
              have HQX := Lib.hid hqx
              clear hqx
              have hki : (k : Int) < (m : Int) + 1 := by omega
              obtain ⟨wo, hwo⟩ : ∃ x, x = wr := ⟨_, rfl⟩
              subst hwo
              go_wp2_with fail
              go_loopw [14, 15] (fun vp vi wr => ∃ (i cnt : Nat), i ≤ m + 1 ∧ vi = .int .i64 i ∧ vp = .int .i64 cnt ∧ cnt ≤ i ∧ Hid (cnt = (l.take i).countP (befO L.l x q)) ∧ Below wo.heap.size wo wr) (fun _ vi _ => m + 1 - (intOf vi).toNat)
              case atStart => exact ⟨0, 0, by omega, rfl, rfl, by omega, Lib.hid (by simp), Below.refl _ _⟩
              case round =>
                obtain ⟨i, cnt, hi, rfl, rfl, hci, HC, hbw⟩ := hrel
                have hbel2 : Below w.heap.size w wr := below_via hbw hbel
                have hhe2 : wo.heap.size ≤ wr.heap.size := hbw.size
                by_cases hil : i < m + 1
                · have hil2 : i < l.length := by have := HN.out; omega
                  obtain ⟨b2, o2, hA, hb2, hcl⟩ := HR.out.at1 hil2
                  simp only [Option.some.injEq, Addr.mk.injEq, and_true] at hA
                  obtain ⟨rfl, rfl⟩ := hA
                  have i0 := (hcl.keep (hbel2.block b hb2)).c1
                  have j0 : wr.cell? ⟨b, o + k, none⟩ = some (.int .i64 q) := by
                    rw [← HCQ.out]; exact hbel2.cell hb
                  have hyi : l[i]? = some l[i] := List.getElem?_eq_getElem hil2
                  simp only [Nat.mul_one] at i0
                  try simp only at i0
                  generalize l[i] = y at *
                  have hc2 := cnt_next hyi HC.out
                  have HC2 := Lib.hid hc2
                  clear hcl hyi hc2 HC k0
                  have hii : (i : Int) < (m : Int) + 1 := by omega
                  by_cases hyx : y = x
                  · have HC3 : Hid (cnt = (l.take (i + 1)).countP (befO L.l x q)) := Lib.hid (by rw [← HC2.out, hyx]; simp [befO])
                    subst hyx
                    clear HC2
                    go_wp2_with fail
                    refine wp_region_T (fun w' => w'.cell? ⟨b, o + i, none⟩ = some (.int .i64 y) ∧ w'.cell? ⟨b, o + k, none⟩ = some (.int .i64 q)) (fun _ => false) (by kernel_rfl) ⟨i0, j0⟩ (fun hHeld => ?_)
                    refine wpAnyT_take2 (i := 0) (v := ?_) rfl rfl (by kernel_rfl) (by kernel_rfl) (by kernel_rfl) (by kernel_rfl) (fun _ _ _ h => h) (Or.inl ⟨by rfl, ?_⟩) (by first | assumption | trivial) ?_
                    rotate_left
                    · (intro w hSw; (try dsimp only at hSw); go_simp) <;> (with_reducible rfl)
                    simp only [List.setIfInBounds_toArray, List.set_cons_zero, List.set_cons_succ]
                    refine wpAnyT_take2 (i := 1) (v := ?_) rfl rfl (by kernel_rfl) (by kernel_rfl) (by kernel_rfl) (by kernel_rfl) (fun _ _ _ h => h) (Or.inl ⟨by rfl, ?_⟩) (by first | assumption | trivial) ?_
                    rotate_left
                    · (intro w hSw; (try dsimp only at hSw); go_simp) <;> (with_reducible rfl)
                    simp only [List.setIfInBounds_toArray, List.set_cons_zero, List.set_cons_succ]
                    refine wpAnyT_take2 (i := 2) (v := ?_) rfl rfl (by kernel_rfl) (by kernel_rfl) (by kernel_rfl) (by kernel_rfl) (fun _ _ _ h => h) (Or.inl ⟨by rfl, ?_⟩) (by first | assumption | trivial) ?_
                    rotate_left
                    · (intro w hSw; (try dsimp only at hSw); go_simp) <;> (with_reducible rfl)
                    simp only [List.setIfInBounds_toArray, List.set_cons_zero, List.set_cons_succ]
                    refine wpAnyT_take2 (i := 3) (v := ?_) rfl rfl (by kernel_rfl) (by kernel_rfl) (by kernel_rfl) (by kernel_rfl) (fun _ _ _ h => h) (Or.inl ⟨by rfl, ?_⟩) (by first | assumption | trivial) ?_
                    rotate_left
                    · (intro w hSw; (try dsimp only at hSw); go_simp) <;> (with_reducible rfl)
                    simp only [List.setIfInBounds_toArray, List.set_cons_zero, List.set_cons_succ]
                    refine wpAnyT_take2 (i := 4) (v := ?_) rfl rfl (by kernel_rfl) (by kernel_rfl) (by kernel_rfl) (by kernel_rfl) (fun _ _ _ h => h) (Or.inl ⟨by rfl, ?_⟩) (by first | assumption | trivial) ?_
                    rotate_left
                    · (intro w hSw; (try dsimp only at hSw); go_simp) <;> (with_reducible rfl)
                    simp only [List.setIfInBounds_toArray, List.set_cons_zero, List.set_cons_succ]
                    refine wpAnyT_take2 (i := 5) (v := .bool false) rfl rfl (by kernel_rfl) (by kernel_rfl) (by kernel_rfl) (by kernel_rfl) (fun _ _ _ h => h) (Or.inl ⟨by rfl, ?_⟩) (by first | assumption | trivial) ?_
                    · (intro w hSw; (try dsimp only at hSw); go_simp) <;> (first | (with_reducible rfl) | assumption | (simp; done) | (simp [*]; done) | (simp; omega))
                    simp only [List.setIfInBounds_toArray, List.set_cons_zero, List.set_cons_succ]
                    refine wpAnyT_take2 (i := 6) (v := ?_) rfl rfl (by kernel_rfl) (by kernel_rfl) (by kernel_rfl) (by kernel_rfl) (fun _ _ _ h => h) (Or.inl ⟨by rfl, ?_⟩) (by first | assumption | trivial) ?_
                    rotate_left
                    · (intro w hSw; (try dsimp only at hSw); go_simp) <;> (with_reducible rfl)
                    simp only [List.setIfInBounds_toArray, List.set_cons_zero, List.set_cons_succ]
                    refine wpAnyT_take2 (i := 7) (v := undef) rfl rfl (by kernel_rfl) (by kernel_rfl) (by kernel_rfl) (by kernel_rfl) (fun _ _ _ h => h) (Or.inr ⟨by rfl, rfl⟩) (by first | assumption | trivial) ?_
                    simp only [List.setIfInBounds_toArray, List.set_cons_zero, List.set_cons_succ]
                    refine wpAnyT_take2 (i := 8) (v := undef) rfl rfl (by kernel_rfl) (by kernel_rfl) (by kernel_rfl) (by kernel_rfl) (fun _ _ _ h => h) (Or.inr ⟨by rfl, rfl⟩) (by first | assumption | trivial) ?_
                    simp only [List.setIfInBounds_toArray, List.set_cons_zero, List.set_cons_succ]
                    refine wpAnyT_take2 (i := 9) (v := undef) rfl rfl (by kernel_rfl) (by kernel_rfl) (by kernel_rfl) (by kernel_rfl) (fun _ _ _ h => h) (Or.inr ⟨by rfl, rfl⟩) (by first | assumption | trivial) ?_
                    simp only [List.setIfInBounds_toArray, List.set_cons_zero, List.set_cons_succ]
                    refine wpAnyT_take2 (i := 10) (v := undef) rfl rfl (by kernel_rfl) (by kernel_rfl) (by kernel_rfl) (by kernel_rfl) (fun _ _ _ h => h) (Or.inr ⟨by rfl, rfl⟩) (by first | assumption | trivial) ?_
                    simp only [List.setIfInBounds_toArray, List.set_cons_zero, List.set_cons_succ]
                    refine wpAnyT_take2 (i := 11) (v := undef) rfl rfl (by kernel_rfl) (by kernel_rfl) (by kernel_rfl) (by kernel_rfl) (fun _ _ _ h => h) (Or.inr ⟨by rfl, rfl⟩) (by first | assumption | trivial) ?_
                    simp only [List.setIfInBounds_toArray, List.set_cons_zero, List.set_cons_succ]
                    refine wpAnyT_take2 (i := 12) (v := undef) rfl rfl (by kernel_rfl) (by kernel_rfl) (by kernel_rfl) (by kernel_rfl) (fun _ _ _ h => h) (Or.inr ⟨by rfl, rfl⟩) (by first | assumption | trivial) ?_
                    simp only [List.setIfInBounds_toArray, List.set_cons_zero, List.set_cons_succ]
                    refine wpAnyT_take2 (i := 13) (v := undef) rfl rfl (by kernel_rfl) (by kernel_rfl) (by kernel_rfl) (by kernel_rfl) (fun _ _ _ h => h) (Or.inr ⟨by rfl, rfl⟩) (by first | assumption | trivial) ?_
                    simp only [List.setIfInBounds_toArray, List.set_cons_zero, List.set_cons_succ]
                    refine wpAnyT_take2 (i := 14) (v := undef) rfl rfl (by kernel_rfl) (by kernel_rfl) (by kernel_rfl) (by kernel_rfl) (fun _ _ _ h => h) (Or.inr ⟨by rfl, rfl⟩) (by first | assumption | trivial) ?_
                    simp only [List.setIfInBounds_toArray, List.set_cons_zero, List.set_cons_succ]
                    refine wpAnyT_take2 (i := 15) (v := undef) rfl rfl (by kernel_rfl) (by kernel_rfl) (by kernel_rfl) (by kernel_rfl) (fun _ _ _ h => h) (Or.inr ⟨by rfl, rfl⟩) (by first | assumption | trivial) ?_
                    simp only [List.setIfInBounds_toArray, List.set_cons_zero, List.set_cons_succ]
                    refine wpAnyT_next (i := 16) (by kernel_rfl) rfl ?_
                    go_wp2_with fail
                    refine And.intro ?_ ?_
                    · first
                      | exact hHeld
                      | exact fun _ => hHeld
                    refine wpAnyT_take2 (i := 17) (v := ?_) rfl rfl (by kernel_rfl) (by kernel_rfl) (by kernel_rfl) (by kernel_rfl) (fun _ _ _ h => h) (Or.inl ⟨by rfl, ?_⟩) (by first | assumption | trivial) ?_
                    rotate_left
                    · (intro w hSw; (try dsimp only at hSw); go_simp) <;> (with_reducible rfl)
                    simp only [List.setIfInBounds_toArray, List.set_cons_zero, List.set_cons_succ]
                    refine wpAnyT_done (by kernel_rfl) ?_ _
                    clear hHeld
                    go_wp2_with fail
                    go_roundw
                    case rel => exact ⟨i + 1, cnt, by omega, by go_num, rfl, by omega, HC3, (by repeat (first | (with_reducible exact hbw) | (with_reducible exact Below.refl _ _) | ((with_reducible refine below_setr ?_ ?_); focus (first | (simp; done) | (simp; omega) | omega)) | ((with_reducible refine below_allocr ?_ ?_); focus (first | (simp; done) | (simp; omega) | omega)) | (with_reducible refine Below.drew ?_) | (with_reducible refine below_drewN ?_ _)))⟩
                    case measure => simp [intOf]; omega
                  · rcases hbf : befB L.l y q
                    · have HBF := Lib.hid hbf
                      have HC3 : Hid (cnt = (l.take (i + 1)).countP (befO L.l x q)) := Lib.hid (by rw [← HC2.out]; simp [befO, hbf])
                      clear hbf HC2
                      go_wp2_with fail
                      refine wp_region_T (fun w' => w'.cell? ⟨b, o + i, none⟩ = some (.int .i64 y) ∧ w'.cell? ⟨b, o + k, none⟩ = some (.int .i64 q)) (fun _ => false) (by kernel_rfl) ⟨i0, j0⟩ (fun hHeld => ?_)
                      refine wpAnyT_take2 (i := 0) (v := ?_) rfl rfl (by kernel_rfl) (by kernel_rfl) (by kernel_rfl) (by kernel_rfl) (fun _ _ _ h => h) (Or.inl ⟨by rfl, ?_⟩) (by first | assumption | trivial) ?_
                      rotate_left
                      · (intro w hSw; (try dsimp only at hSw); go_simp) <;> (with_reducible rfl)
                      simp only [List.setIfInBounds_toArray, List.set_cons_zero, List.set_cons_succ]
                      refine wpAnyT_take2 (i := 1) (v := ?_) rfl rfl (by kernel_rfl) (by kernel_rfl) (by kernel_rfl) (by kernel_rfl) (fun _ _ _ h => h) (Or.inl ⟨by rfl, ?_⟩) (by first | assumption | trivial) ?_
                      rotate_left
                      · (intro w hSw; (try dsimp only at hSw); go_simp) <;> (with_reducible rfl)
                      simp only [List.setIfInBounds_toArray, List.set_cons_zero, List.set_cons_succ]
                      refine wpAnyT_take2 (i := 2) (v := ?_) rfl rfl (by kernel_rfl) (by kernel_rfl) (by kernel_rfl) (by kernel_rfl) (fun _ _ _ h => h) (Or.inl ⟨by rfl, ?_⟩) (by first | assumption | trivial) ?_
                      rotate_left
                      · (intro w hSw; (try dsimp only at hSw); go_simp) <;> (with_reducible rfl)
                      simp only [List.setIfInBounds_toArray, List.set_cons_zero, List.set_cons_succ]
                      refine wpAnyT_take2 (i := 3) (v := ?_) rfl rfl (by kernel_rfl) (by kernel_rfl) (by kernel_rfl) (by kernel_rfl) (fun _ _ _ h => h) (Or.inl ⟨by rfl, ?_⟩) (by first | assumption | trivial) ?_
                      rotate_left
                      · (intro w hSw; (try dsimp only at hSw); go_simp) <;> (with_reducible rfl)
                      simp only [List.setIfInBounds_toArray, List.set_cons_zero, List.set_cons_succ]
                      refine wpAnyT_take2 (i := 4) (v := ?_) rfl rfl (by kernel_rfl) (by kernel_rfl) (by kernel_rfl) (by kernel_rfl) (fun _ _ _ h => h) (Or.inl ⟨by rfl, ?_⟩) (by first | assumption | trivial) ?_
                      rotate_left
                      · (intro w hSw; (try dsimp only at hSw); go_simp) <;> (with_reducible rfl)
                      simp only [List.setIfInBounds_toArray, List.set_cons_zero, List.set_cons_succ]
                      refine wpAnyT_take2 (i := 5) (v := .bool true) rfl rfl (by kernel_rfl) (by kernel_rfl) (by kernel_rfl) (by kernel_rfl) (fun _ _ _ h => h) (Or.inl ⟨by rfl, ?_⟩) (by first | assumption | trivial) ?_
                      · (intro w hSw; (try dsimp only at hSw); go_simp) <;> (first | (with_reducible rfl) | assumption | (simp; done) | (simp [*]; done) | (simp; omega))
                      simp only [List.setIfInBounds_toArray, List.set_cons_zero, List.set_cons_succ]
                      refine wpAnyT_take2 (i := 6) (v := ?_) rfl rfl (by kernel_rfl) (by kernel_rfl) (by kernel_rfl) (by kernel_rfl) (fun _ _ _ h => h) (Or.inl ⟨by rfl, ?_⟩) (by first | assumption | trivial) ?_
                      rotate_left
                      · (intro w hSw; (try dsimp only at hSw); go_simp) <;> (with_reducible rfl)
                      simp only [List.setIfInBounds_toArray, List.set_cons_zero, List.set_cons_succ]
                      refine wpAnyT_take2 (i := 7) (v := ?_) rfl rfl (by kernel_rfl) (by kernel_rfl) (by kernel_rfl) (by kernel_rfl) (fun _ _ _ h => h) (Or.inl ⟨by rfl, ?_⟩) (by first | assumption | trivial) ?_
                      rotate_left
                      · (intro w hSw; (try dsimp only at hSw); go_simp) <;> (with_reducible rfl)
                      simp only [List.setIfInBounds_toArray, List.set_cons_zero, List.set_cons_succ]
                      refine wpAnyT_take2 (i := 8) (v := ?_) rfl rfl (by kernel_rfl) (by kernel_rfl) (by kernel_rfl) (by kernel_rfl) (fun _ _ _ h => h) (Or.inl ⟨by rfl, ?_⟩) (by first | assumption | trivial) ?_
                      rotate_left
                      · (intro w hSw; (try dsimp only at hSw); go_simp) <;> (with_reducible rfl)
                      simp only [List.setIfInBounds_toArray, List.set_cons_zero, List.set_cons_succ]
                      refine wpAnyT_take2 (i := 9) (v := ?_) rfl rfl (by kernel_rfl) (by kernel_rfl) (by kernel_rfl) (by kernel_rfl) (fun _ _ _ h => h) (Or.inl ⟨by rfl, ?_⟩) (by first | assumption | trivial) ?_
                      rotate_left
                      · (intro w hSw; (try dsimp only at hSw); go_simp) <;> (with_reducible rfl)
                      simp only [List.setIfInBounds_toArray, List.set_cons_zero, List.set_cons_succ]
                      refine wpAnyT_take2 (i := 10) (v := ?_) rfl rfl (by kernel_rfl) (by kernel_rfl) (by kernel_rfl) (by kernel_rfl) (fun _ _ _ h => h) (Or.inl ⟨by rfl, ?_⟩) (by first | assumption | trivial) ?_
                      rotate_left
                      · (intro w hSw; (try dsimp only at hSw); go_simp) <;> (with_reducible rfl)
                      simp only [List.setIfInBounds_toArray, List.set_cons_zero, List.set_cons_succ]
                      refine wpAnyT_take2 (i := 11) (v := ?_) rfl rfl (by kernel_rfl) (by kernel_rfl) (by kernel_rfl) (by kernel_rfl) (fun _ _ _ h => h) (Or.inl ⟨by rfl, ?_⟩) (by first | assumption | trivial) ?_
                      rotate_left
                      · (intro w hSw; (try dsimp only at hSw); go_simp) <;> (with_reducible rfl)
                      simp only [List.setIfInBounds_toArray, List.set_cons_zero, List.set_cons_succ]
                      refine wpAnyT_take2 (i := 12) (v := ?_) rfl rfl (by kernel_rfl) (by kernel_rfl) (by kernel_rfl) (by kernel_rfl) (fun _ _ _ h => h) (Or.inl ⟨by rfl, ?_⟩) (by first | assumption | trivial) ?_
                      rotate_left
                      · (intro w hSw; (try dsimp only at hSw); go_simp) <;> (with_reducible rfl)
                      simp only [List.setIfInBounds_toArray, List.set_cons_zero, List.set_cons_succ]
                      refine wpAnyT_take2 (i := 13) (v := ?_) rfl rfl (by kernel_rfl) (by kernel_rfl) (by kernel_rfl) (by kernel_rfl) (fun _ _ _ h => h) (Or.inl ⟨by rfl, ?_⟩) (by first | assumption | trivial) ?_
                      rotate_left
                      · (intro w hSw; (try dsimp only at hSw); go_simp) <;> (with_reducible rfl)
                      simp only [List.setIfInBounds_toArray, List.set_cons_zero, List.set_cons_succ]
                      refine wpAnyT_take2 (i := 14) (v := ?_) rfl rfl (by kernel_rfl) (by kernel_rfl) (by kernel_rfl) (by kernel_rfl) (fun _ _ _ h => h) (Or.inl ⟨by rfl, ?_⟩) (by first | assumption | trivial) ?_
                      rotate_left
                      · (intro w hSw; (try dsimp only at hSw); go_simp) <;> (with_reducible rfl)
                      simp only [List.setIfInBounds_toArray, List.set_cons_zero, List.set_cons_succ]
                      refine wpAnyT_take2 (i := 15) (v := ?_) rfl rfl (by kernel_rfl) (by kernel_rfl) (by kernel_rfl) (by kernel_rfl) (fun _ _ _ h => h) (Or.inl ⟨by rfl, ?_⟩) (by first | assumption | trivial) ?_
                      rotate_left
                      · (intro w hSw; (try dsimp only at hSw); go_simp) <;> (with_reducible rfl)
                      simp only [List.setIfInBounds_toArray, List.set_cons_zero, List.set_cons_succ]
                      have HHD := Lib.hid hHeld
                      clear hHeld
                      refine wpAnyT_next (i := 16) (by kernel_rfl) rfl ?_
                      go_wp2_with fail
                      refine (before_bef L y q _ (HL.out.later (by repeat (first | (with_reducible exact hbel2) | (with_reducible exact Below.refl _ _) | ((with_reducible refine below_setr ?_ ?_); focus (first | (simp; done) | (simp; omega) | omega)) | ((with_reducible refine below_allocr ?_ ?_); focus (first | (simp; done) | (simp; omega) | omega)) | (with_reducible refine Below.drew ?_) | (with_reducible refine below_drewN ?_ _))) (Nat.le_refl _))).mono ?_
                      rintro e w' ⟨rfl, rfl⟩
                      rw [HBF.out]
                      go_wp2_with fail
                      have hHeld := HHD.out
                      refine And.intro ?_ ?_
                      · first
                        | exact hHeld
                        | exact fun _ => hHeld
                      refine wpAnyT_take2 (i := 17) (v := ?_) rfl rfl (by kernel_rfl) (by kernel_rfl) (by kernel_rfl) (by kernel_rfl) (fun _ _ _ h => h) (Or.inl ⟨by rfl, ?_⟩) (by first | assumption | trivial) ?_
                      rotate_left
                      · (intro w hSw; (try dsimp only at hSw); go_simp) <;> (with_reducible rfl)
                      simp only [List.setIfInBounds_toArray, List.set_cons_zero, List.set_cons_succ]
                      refine wpAnyT_done (by kernel_rfl) ?_ _
                      clear hHeld
                      go_wp2_with fail
                      go_roundw
                      case rel => exact ⟨i + 1, cnt, by omega, by go_num, rfl, by omega, HC3, (by repeat (first | (with_reducible exact hbw) | (with_reducible exact Below.refl _ _) | ((with_reducible refine below_setr ?_ ?_); focus (first | (simp; done) | (simp; omega) | omega)) | ((with_reducible refine below_allocr ?_ ?_); focus (first | (simp; done) | (simp; omega) | omega)) | (with_reducible refine Below.drew ?_) | (with_reducible refine below_drewN ?_ _)))⟩
                      case measure => simp [intOf]; omega
                    · have HBF := Lib.hid hbf
                      have HC3 : Hid (cnt + 1 = (l.take (i + 1)).countP (befO L.l x q)) := Lib.hid (by rw [← HC2.out]; simp [befO, hbf, hyx])
                      clear hbf HC2
                      go_wp2_with fail
                      refine wp_region_T (fun w' => w'.cell? ⟨b, o + i, none⟩ = some (.int .i64 y) ∧ w'.cell? ⟨b, o + k, none⟩ = some (.int .i64 q)) (fun _ => false) (by kernel_rfl) ⟨i0, j0⟩ (fun hHeld => ?_)
                      refine wpAnyT_take2 (i := 0) (v := ?_) rfl rfl (by kernel_rfl) (by kernel_rfl) (by kernel_rfl) (by kernel_rfl) (fun _ _ _ h => h) (Or.inl ⟨by rfl, ?_⟩) (by first | assumption | trivial) ?_
                      rotate_left
                      · (intro w hSw; (try dsimp only at hSw); go_simp) <;> (with_reducible rfl)
                      simp only [List.setIfInBounds_toArray, List.set_cons_zero, List.set_cons_succ]
                      refine wpAnyT_take2 (i := 1) (v := ?_) rfl rfl (by kernel_rfl) (by kernel_rfl) (by kernel_rfl) (by kernel_rfl) (fun _ _ _ h => h) (Or.inl ⟨by rfl, ?_⟩) (by first | assumption | trivial) ?_
                      rotate_left
                      · (intro w hSw; (try dsimp only at hSw); go_simp) <;> (with_reducible rfl)
                      simp only [List.setIfInBounds_toArray, List.set_cons_zero, List.set_cons_succ]
                      refine wpAnyT_take2 (i := 2) (v := ?_) rfl rfl (by kernel_rfl) (by kernel_rfl) (by kernel_rfl) (by kernel_rfl) (fun _ _ _ h => h) (Or.inl ⟨by rfl, ?_⟩) (by first | assumption | trivial) ?_
                      rotate_left
                      · (intro w hSw; (try dsimp only at hSw); go_simp) <;> (with_reducible rfl)
                      simp only [List.setIfInBounds_toArray, List.set_cons_zero, List.set_cons_succ]
                      refine wpAnyT_take2 (i := 3) (v := ?_) rfl rfl (by kernel_rfl) (by kernel_rfl) (by kernel_rfl) (by kernel_rfl) (fun _ _ _ h => h) (Or.inl ⟨by rfl, ?_⟩) (by first | assumption | trivial) ?_
                      rotate_left
                      · (intro w hSw; (try dsimp only at hSw); go_simp) <;> (with_reducible rfl)
                      simp only [List.setIfInBounds_toArray, List.set_cons_zero, List.set_cons_succ]
                      refine wpAnyT_take2 (i := 4) (v := ?_) rfl rfl (by kernel_rfl) (by kernel_rfl) (by kernel_rfl) (by kernel_rfl) (fun _ _ _ h => h) (Or.inl ⟨by rfl, ?_⟩) (by first | assumption | trivial) ?_
                      rotate_left
                      · (intro w hSw; (try dsimp only at hSw); go_simp) <;> (with_reducible rfl)
                      simp only [List.setIfInBounds_toArray, List.set_cons_zero, List.set_cons_succ]
                      refine wpAnyT_take2 (i := 5) (v := .bool true) rfl rfl (by kernel_rfl) (by kernel_rfl) (by kernel_rfl) (by kernel_rfl) (fun _ _ _ h => h) (Or.inl ⟨by rfl, ?_⟩) (by first | assumption | trivial) ?_
                      · (intro w hSw; (try dsimp only at hSw); go_simp) <;> (first | (with_reducible rfl) | assumption | (simp; done) | (simp [*]; done) | (simp; omega))
                      simp only [List.setIfInBounds_toArray, List.set_cons_zero, List.set_cons_succ]
                      refine wpAnyT_take2 (i := 6) (v := ?_) rfl rfl (by kernel_rfl) (by kernel_rfl) (by kernel_rfl) (by kernel_rfl) (fun _ _ _ h => h) (Or.inl ⟨by rfl, ?_⟩) (by first | assumption | trivial) ?_
                      rotate_left
                      · (intro w hSw; (try dsimp only at hSw); go_simp) <;> (with_reducible rfl)
                      simp only [List.setIfInBounds_toArray, List.set_cons_zero, List.set_cons_succ]
                      refine wpAnyT_take2 (i := 7) (v := ?_) rfl rfl (by kernel_rfl) (by kernel_rfl) (by kernel_rfl) (by kernel_rfl) (fun _ _ _ h => h) (Or.inl ⟨by rfl, ?_⟩) (by first | assumption | trivial) ?_
                      rotate_left
                      · (intro w hSw; (try dsimp only at hSw); go_simp) <;> (with_reducible rfl)
                      simp only [List.setIfInBounds_toArray, List.set_cons_zero, List.set_cons_succ]
                      refine wpAnyT_take2 (i := 8) (v := ?_) rfl rfl (by kernel_rfl) (by kernel_rfl) (by kernel_rfl) (by kernel_rfl) (fun _ _ _ h => h) (Or.inl ⟨by rfl, ?_⟩) (by first | assumption | trivial) ?_
                      rotate_left
                      · (intro w hSw; (try dsimp only at hSw); go_simp) <;> (with_reducible rfl)
                      simp only [List.setIfInBounds_toArray, List.set_cons_zero, List.set_cons_succ]
                      refine wpAnyT_take2 (i := 9) (v := ?_) rfl rfl (by kernel_rfl) (by kernel_rfl) (by kernel_rfl) (by kernel_rfl) (fun _ _ _ h => h) (Or.inl ⟨by rfl, ?_⟩) (by first | assumption | trivial) ?_
                      rotate_left
                      · (intro w hSw; (try dsimp only at hSw); go_simp) <;> (with_reducible rfl)
                      simp only [List.setIfInBounds_toArray, List.set_cons_zero, List.set_cons_succ]
                      refine wpAnyT_take2 (i := 10) (v := ?_) rfl rfl (by kernel_rfl) (by kernel_rfl) (by kernel_rfl) (by kernel_rfl) (fun _ _ _ h => h) (Or.inl ⟨by rfl, ?_⟩) (by first | assumption | trivial) ?_
                      rotate_left
                      · (intro w hSw; (try dsimp only at hSw); go_simp) <;> (with_reducible rfl)
                      simp only [List.setIfInBounds_toArray, List.set_cons_zero, List.set_cons_succ]
                      refine wpAnyT_take2 (i := 11) (v := ?_) rfl rfl (by kernel_rfl) (by kernel_rfl) (by kernel_rfl) (by kernel_rfl) (fun _ _ _ h => h) (Or.inl ⟨by rfl, ?_⟩) (by first | assumption | trivial) ?_
                      rotate_left
                      · (intro w hSw; (try dsimp only at hSw); go_simp) <;> (with_reducible rfl)
                      simp only [List.setIfInBounds_toArray, List.set_cons_zero, List.set_cons_succ]
                      refine wpAnyT_take2 (i := 12) (v := ?_) rfl rfl (by kernel_rfl) (by kernel_rfl) (by kernel_rfl) (by kernel_rfl) (fun _ _ _ h => h) (Or.inl ⟨by rfl, ?_⟩) (by first | assumption | trivial) ?_
                      rotate_left
                      · (intro w hSw; (try dsimp only at hSw); go_simp) <;> (with_reducible rfl)
                      simp only [List.setIfInBounds_toArray, List.set_cons_zero, List.set_cons_succ]
                      refine wpAnyT_take2 (i := 13) (v := ?_) rfl rfl (by kernel_rfl) (by kernel_rfl) (by kernel_rfl) (by kernel_rfl) (fun _ _ _ h => h) (Or.inl ⟨by rfl, ?_⟩) (by first | assumption | trivial) ?_
                      rotate_left
                      · (intro w hSw; (try dsimp only at hSw); go_simp) <;> (with_reducible rfl)
                      simp only [List.setIfInBounds_toArray, List.set_cons_zero, List.set_cons_succ]
                      refine wpAnyT_take2 (i := 14) (v := ?_) rfl rfl (by kernel_rfl) (by kernel_rfl) (by kernel_rfl) (by kernel_rfl) (fun _ _ _ h => h) (Or.inl ⟨by rfl, ?_⟩) (by first | assumption | trivial) ?_
                      rotate_left
                      · (intro w hSw; (try dsimp only at hSw); go_simp) <;> (with_reducible rfl)
                      simp only [List.setIfInBounds_toArray, List.set_cons_zero, List.set_cons_succ]
                      refine wpAnyT_take2 (i := 15) (v := ?_) rfl rfl (by kernel_rfl) (by kernel_rfl) (by kernel_rfl) (by kernel_rfl) (fun _ _ _ h => h) (Or.inl ⟨by rfl, ?_⟩) (by first | assumption | trivial) ?_
                      rotate_left
                      · (intro w hSw; (try dsimp only at hSw); go_simp) <;> (with_reducible rfl)
                      simp only [List.setIfInBounds_toArray, List.set_cons_zero, List.set_cons_succ]
                      have HHD := Lib.hid hHeld
                      clear hHeld
                      refine wpAnyT_next (i := 16) (by kernel_rfl) rfl ?_
                      go_wp2_with fail
                      refine (before_bef L y q _ (HL.out.later (by repeat (first | (with_reducible exact hbel2) | (with_reducible exact Below.refl _ _) | ((with_reducible refine below_setr ?_ ?_); focus (first | (simp; done) | (simp; omega) | omega)) | ((with_reducible refine below_allocr ?_ ?_); focus (first | (simp; done) | (simp; omega) | omega)) | (with_reducible refine Below.drew ?_) | (with_reducible refine below_drewN ?_ _))) (Nat.le_refl _))).mono ?_
                      rintro e w' ⟨rfl, rfl⟩
                      rw [HBF.out]
                      go_wp2_with fail
                      have hHeld := HHD.out
                      refine And.intro ?_ ?_
                      · first
                        | exact hHeld
                        | exact fun _ => hHeld
                      refine wpAnyT_take2 (i := 17) (v := ?_) rfl rfl (by kernel_rfl) (by kernel_rfl) (by kernel_rfl) (by kernel_rfl) (fun _ _ _ h => h) (Or.inl ⟨by rfl, ?_⟩) (by first | assumption | trivial) ?_
                      rotate_left
                      · (intro w hSw; (try dsimp only at hSw); go_simp) <;> (with_reducible rfl)
                      simp only [List.setIfInBounds_toArray, List.set_cons_zero, List.set_cons_succ]
                      refine wpAnyT_done (by kernel_rfl) ?_ _
                      clear hHeld
                      go_wp2_with fail
                      go_roundw
                      case rel => exact ⟨i + 1, cnt + 1, by omega, by go_num, by go_num, by omega, HC3, (by repeat (first | (with_reducible exact hbw) | (with_reducible exact Below.refl _ _) | ((with_reducible refine below_setr ?_ ?_); focus (first | (simp; done) | (simp; omega) | omega)) | ((with_reducible refine below_allocr ?_ ?_); focus (first | (simp; done) | (simp; omega) | omega)) | (with_reducible refine Below.drew ?_) | (with_reducible refine below_drewN ?_ _)))⟩
                      case measure => simp [intOf]; omega
                · have hcf : cnt = l.countP (befO L.l x q) := by
                    have := HC.out
                    rwa [List.take_of_length_le (by have := HN.out; omega)] at this
                  have hdl := dlt_place (c := cnt) HRAW.out HOL.out (by rw [HBR.out]; exact hcf) HQM.out (by rw [HBR.out]; exact HQX.out)
                  have hst := outR_step HND.out HOR.out HQK.out (by rw [HBR.out]; exact HQX.out)
                  have hof := outR_of HND.out HOR.out HQK.out (by rw [HBR.out]; exact HQX.out)
                  have hqb := HBDL.out q
                  have hso := HOR.out.sort
                  have hrd := ((HOW.out.below hbw).rd Bal.k).mono (fun b hb => hb.2)
                  have HHO : Hid (Own w.heap.size 39 2 Bal.enc wr ⟨A', c', ou⟩) := Lib.hid (HOW.out.below hbw)
                  rw [hdl] at hst
                  have HQB := Lib.hid hqb
                  have HOF := Lib.hid hof
                  have HSO := Lib.hid hso
                  have HRD := Lib.hid hrd
                  have HST := Lib.hid hst
                  clear hcf hdl hst hof hqb hso hrd HC HOR k0
                  have j0 : wr.cell? ⟨b, o + k, none⟩ = some (.int .i64 q) := by rw [← HCQ.out]; exact hbel2.cell hb
                  have hii : ¬ (i : Int) < (m : Int) + 1 := by omega
                  have hii2 : (m : Int) + 1 ≤ (i : Int) := by omega
                  by_cases hkr : (cnt : Int) < t % (m : Int)
                  · have hpk := HPK.out cnt hkr
                    have HST2 : Hid (OutR L.l l t (k + 1) (addL q (-(t / (m : Int) + 1)) ou)) := Lib.hid (by have := HST.out; rwa [if_pos hkr] at this)
                    clear HST
                    go_wp2_with fail
                    refine (radd_any ⟨A', c', ou⟩ q (-(t / (m : Int) + 1)) _ HRD.out HSO.out (by simp only; omega) (by have := HQB.out; simp only; rw [HOF.out]; omega) (by have := HQB.out; simp only; rw [HOF.out]; omega)).mono ?_
                    rintro e w4 ⟨A4, c4, rfl, ho4, hb4⟩
                    have hl4 := length_addL (m := q) (d := -(t / (m : Int) + 1)) (l := ou)
                    have HO4 : Hid (Own w.heap.size 39 2 Bal.enc w4 ⟨A4, c4, addL q (-(t / (m : Int) + 1)) ou⟩) := Lib.hid (ho4.mono (by omega))
                    have hbel4 := below_via hb4 hbel2
                    simp only at HO4 ⊢
                    generalize addL q (-(t / (m : Int) + 1)) ou = ou4 at *
                    clear ho4 hb4
                    go_wp2_with fail
                    go_roundw
                    case rel => exact ⟨k + 1, A4, c4, ou4, by omega, by go_num, rfl, HO4, HST2, by omega, hbel4⟩
                    case measure => simp [intOf]; omega
                  · have HST2 : Hid (OutR L.l l t (k + 1) (addL q (-(t / (m : Int))) ou)) := Lib.hid (by have := HST.out; rwa [if_neg hkr, Int.add_zero] at this)
                    clear HST
                    go_wp2_with fail
                    refine (radd_any ⟨A', c', ou⟩ q (-(t / (m : Int))) _ HRD.out HSO.out (by simp only; omega) (by have := HQB.out; simp only; rw [HOF.out]; omega) (by have := HQB.out; simp only; rw [HOF.out]; omega)).mono ?_
                    rintro e w4 ⟨A4, c4, rfl, ho4, hb4⟩
                    have hl4 := length_addL (m := q) (d := -(t / (m : Int))) (l := ou)
                    have HO4 : Hid (Own w.heap.size 39 2 Bal.enc w4 ⟨A4, c4, addL q (-(t / (m : Int))) ou⟩) := Lib.hid (ho4.mono (by omega))
                    have hbel4 := below_via hb4 hbel2
                    simp only at HO4 ⊢
                    generalize addL q (-(t / (m : Int))) ou = ou4 at *
                    clear ho4 hb4
                    go_wp2_with fail
                    go_roundw
                    case rel => exact ⟨k + 1, A4, c4, ou4, by omega, by go_num, rfl, HO4, HST2, by omega, hbel4⟩
                    case measure => simp [intOf]; omega
          · have hfin : outF L.l l t = ou := outR_end HRAW.out HONE.out (by have := HN.out; omega) HOR.out
            have hrv := right_out HF.out hfin
            have hrd := (HOW.out.rd Bal.k).mono (fun b hb => hb.2)
            have HFIN := Lib.hid hfin
            have HRD := Lib.hid hrd
            clear hfin HOR hrd
            rcases hva : ou.all validB
            · have HVA := Lib.hid hva
              have HRV : Hid (rightL ou = false) := Lib.hid (by rw [hrv, hva])
              clear hva hrv
              go_wp2_with fail
              refine (rright_any ⟨A', c', ou⟩ _ HRD.out (by simp only; omega)).mono ?_
              rintro e w5 ⟨rfl, hb5⟩
              rw [HRV.out]
              have hB5 := below_via hb5 hbel
              go_wp2_with fail
              go_ret3
              exact bearPost_full HF.out HVA.out HFIN.out rfl hB5
            · have HVA := Lib.hid hva
              have HRV : Hid (rightL ou = true) := Lib.hid (by rw [hrv, hva])
              clear hva hrv
              go_wp2_with fail
              refine (rright_any ⟨A', c', ou⟩ _ HRD.out (by simp only; omega)).mono ?_
              rintro e w5 ⟨rfl, hb5⟩
              rw [HRV.out]
              have hB5 := below_via hb5 hbel
              have HR5 := Lib.hid (((HOW.out.below hb5).rd Bal.k).mono (fun b hb => hb))
              go_wp2_with fail
              go_ret3
              exact bearPost_ok HF.out HVA.out HBR.out HFIN.out rfl HR5.out hB5
theorem rbear_any (L : Sl Bal) (s : Sl Int) (t : Int) (w : World) (hL : Rd (· < w.heap.size) 2 Bal.enc w L) (hr : Rd (· < w.heap.size) 1 ienc w s) (hl : L.l.length ≤ 900) :
    Calls Try.prog 11 #[.slice L.A L.l.length L.c, .slice s.A s.l.length s.c, .int .i64 t] w (BearPost L s t w) := by
  rcases hf : fineB L.l s.l t
  · exact rbear_no L s t w hL hr hl hf
  · exact rbear_yes L s t w hL hr hl hf
end Go.Proofs.Ytjbdjlgddjmkbaa
