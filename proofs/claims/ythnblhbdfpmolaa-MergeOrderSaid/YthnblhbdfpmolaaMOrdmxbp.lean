/- The walk of MergeOrder: it returns true. -/
import Derived.Test.YthnblhbdfpmolaaMOrdmxbn
import Derived.Test.YthnblhbdfpmolaaMOrdmxbo
namespace Go.Proofs.Ythnblhbdfpmolaa
open Go.RowKit
theorem natI_get {o : List Nat} {i : Nat} (h : i < o.length) : (natI o)[i]? = some ((o[i] : Nat) : Int) := by unfold natI; rw [List.getElem?_map, List.getElem?_eq_getElem h]; rfl
theorem make_ints (n : Nat) (hn : n ≤ 10000) (w : World) : (Instr.makeSlice 24 (.int .i64 (n : Int)) (.int .i64 (n : Int))).run Try.prog w = .ok (.slice (some ⟨w.heap.size, 0, none⟩) n n) (w.alloc (.cells (dnC (List.replicate n 0)) 3)) := by
  obtain ⟨i, hi, hz, hsize, hby, hzs⟩ := infoInt
  have h := run_makeSlice w 24 3 i _ Try.underlying24 hi hz .i64 .i64 (n : Int) (n : Int) (by omega) (Int.le_refl _) (by rw [hsize]; omega) (by rw [hby]; omega) (by omega)
  have hc : madeCells (Value.int .i64 0).cells n = dnC (List.replicate n 0) := by
    unfold dnC madeCells
    apply Array.ext_getElem?
    intro j
    rcases Nat.lt_or_ge j n with hj | hj
    · rw [Array.getElem?_map, Array.getElem?_range, if_pos hj, List.getElem?_toArray, List.getElem?_map, List.getElem?_replicate, if_pos hj]
      simp [Value.cells, Nat.mod_one]
    · rw [Array.getElem?_eq_none (by simpa using hj), Array.getElem?_eq_none (by simpa using hj)]
  rw [h, hsize]
  simp only [Int.toNat_natCast, Nat.mul_one, hc]
theorem bef_of {a b : NoteD} (h : firstN a b = true ∨ beforeN a b = true) (hn : ¬ firstN a b = true) : beforeN a b = true := h.resolve_left hn
/-- What the turns say after m notes. -/
structure TnOK (o : List Nat) (n m : Nat) (tn : List Int) : Prop where
  len : tn.length = n
  done : ∀ s, (hs : s < o.length) → s < m → tn.getD o[s] 0 = (s : Int) + 1
  rest : ∀ j, (∀ s, (hs : s < o.length) → s < m → o[s] ≠ j) → tn.getD j 0 = 0
theorem TnOK.start (o : List Nat) (n : Nat) : TnOK o n 0 (List.replicate n 0) where
  len := by simp
  done s hs h := absurd h (Nat.not_lt_zero _)
  rest j _ := by simp only [List.getD_eq_getElem?_getD, List.getElem?_replicate]; split <;> rfl
theorem TnOK.zero {o : List Nat} {n m : Nat} {tn : List Int} (h : TnOK o n m tn) (hm : m < o.length) (hinj : ∀ {s t : Nat} (hs : s < o.length) (ht : t < o.length), o[s] = o[t] → s = t) : tn.getD o[m] 0 = 0 :=
  h.rest _ (fun s hs hsm he => by have := hinj hs hm he; omega)
theorem TnOK.step {o : List Nat} {n m : Nat} {tn : List Int} (h : TnOK o n m tn) (hm : m < o.length) (hn : o[m] < n) (hinj : ∀ {s t : Nat} (hs : s < o.length) (ht : t < o.length), o[s] = o[t] → s = t) : TnOK o n (m + 1) (tn.set o[m] ((m : Int) + 1)) where
  len := by rw [List.length_set]; exact h.len
  done s hs hsm := by
    simp only [List.getD_eq_getElem?_getD, List.getElem?_set]
    by_cases he : s = m
    · subst he; simp [h.len, hn]
    · have hne : ¬ o[m] = o[s] := fun hc => he (hinj hm hs hc).symm
      rw [if_neg hne]
      have := h.done s hs (by omega)
      simpa [List.getD_eq_getElem?_getD] using this
  rest j hj := by
    simp only [List.getD_eq_getElem?_getD, List.getElem?_set]
    rw [if_neg (hj m hm (by omega))]
    have := h.rest j (fun s hs hsm => hj s hs (by omega))
    simpa [List.getD_eq_getElem?_getD] using this
set_option maxHeartbeats 1000000 in
set_option maxRecDepth 100000 in
theorem mergeorder (s : Sl Note) (w : World) (hs : RdNotes (· < w.heap.size) w s) :
    Calls Try.prog 8 #[.slice s.A s.l.length s.c] w fun e w' => e = .returned (.bool true) ∧ Below w.heap.size w w' := by
  obtain ⟨A, c, l⟩ := s
  have HR := Lib.hid hs
  clear hs
  simp only
  go_enter Try.func8, Try.ntmps8
  go_wp2_with fail
  refine (small41 _).mono ?_
  rintro e w1 ⟨rfl, hb1⟩
  have hB1 : Below w.heap.size w w1 := (by repeat (first | (with_reducible exact Below.refl _ _) | ((with_reducible refine below_setr ?_ ?_); focus (first | (simp; done) | (simp; omega) | omega)) | ((with_reducible refine below_allocr ?_ ?_); focus (first | (simp; done) | (simp; omega) | omega)) | (with_reducible refine Below.drew ?_) | (with_reducible refine below_drewN ?_ _) | ((with_reducible apply below_via); focus (with_reducible assumption))))
  clear hb1
  go_wp2_with fail
  refine (rfew41 ⟨A, c, l⟩ 20 (by omega) w1 (HR.out.later hB1 (Nat.le_refl _))).mono ?_
  rintro e w2 ⟨⟨f1, rfl, hf1⟩, hb2⟩
  have hB2 : Below w.heap.size w w2 := (by repeat (first | (with_reducible exact hB1) | (with_reducible exact Below.refl _ _) | ((with_reducible refine below_setr ?_ ?_); focus (first | (simp; done) | (simp; omega) | omega)) | ((with_reducible refine below_allocr ?_ ?_); focus (first | (simp; done) | (simp; omega) | omega)) | (with_reducible refine Below.drew ?_) | (with_reducible refine below_drewN ?_ _) | ((with_reducible apply below_via); focus (with_reducible assumption))))
  clear hb2
  rcases f1 with _ | _
  · clear hf1
    go_wp2_with fail
    go_ret
    exact ⟨rfl, (by repeat (first | (with_reducible exact hB2) | (with_reducible exact Below.refl _ _) | ((with_reducible refine below_setr ?_ ?_); focus (first | (simp; done) | (simp; omega) | omega)) | ((with_reducible refine below_allocr ?_ ?_); focus (first | (simp; done) | (simp; omega) | omega)) | (with_reducible refine Below.drew ?_) | (with_reducible refine below_drewN ?_ _) | ((with_reducible apply below_via); focus (with_reducible assumption))))⟩
  have hl1 : l.length ≤ 20 := hf1 rfl
  clear hf1
  go_wp2_with fail
  refine (morder ⟨A, c, l⟩ w2 (HR.out.later hB2 (Nat.le_refl _))).mono ?_
  rintro e w3 ⟨⟨oA, oc, ol⟩, rfl, hol, hor, hb3⟩
  have hB3 : Below w.heap.size w w3 := (by repeat (first | (with_reducible exact hB2) | (with_reducible exact Below.refl _ _) | ((with_reducible refine below_setr ?_ ?_); focus (first | (simp; done) | (simp; omega) | omega)) | ((with_reducible refine below_allocr ?_ ?_); focus (first | (simp; done) | (simp; omega) | omega)) | (with_reducible refine Below.drew ?_) | (with_reducible refine below_drewN ?_ _) | ((with_reducible apply below_via); focus (with_reducible assumption))))
  have HOR := Lib.hid (hor.mono (G := fun b => b < w3.heap.size) (fun b hb => hb.2))
  have HOL := Lib.hid hol
  clear hor hol hb3
  simp only
  go_wp2_with fail
  have hwl : IntKind.i64.wrap ((l.length : Int) - 1) = (l.length : Int) - 1 := by rw [IntKind.wrap_i64]; omega
  go_loopw [6, 7] (fun b i wr => ∃ (m : Nat) (BA : Option Addr) (BC : Nat), m ≤ l.length ∧ i = .int .i64 ((l.length : Int) - 1 - m) ∧ b = .slice BA (l.reverse.take m).length BC ∧ Own w3.heap.size 61 5 Note.enc wr ⟨BA, BC, l.reverse.take m⟩ ∧ Below w3.heap.size w3 wr) (fun _ i _ => (intOf i + 1).toNat)
  case atStart => exact ⟨0, none, 0, by omega, by simp, by simp, by simpa using Own.nil _ _ _ _ _, Below.refl _ _⟩
  case round =>
    obtain ⟨m, BA, BC, hm, rfl, rfl, hown, hbel⟩ := hrel
    by_cases hlt : m < l.length
    · obtain ⟨j, hj⟩ : ∃ j : Nat, m + j + 1 = l.length := ⟨l.length - 1 - m, by omega⟩
      have hjl : j < l.length := by omega
      have hji : (l.length : Int) - 1 - m = (j : Int) := by omega
      rw [hji]
      have hj0 : (0 : Int) ≤ (j : Int) := by omega
      have hjl' : (j : Int) < (l.length : Int) := by omega
      have hwj : IntKind.i64.wrap ((j : Int) - 1) = (j : Int) - 1 := by rw [IntKind.wrap_i64]; omega
      obtain ⟨b, o, rfl, hb, hcl⟩ := HR.out.1.at1 hjl
      have hB4 : Below w.heap.size w wr := hB3.trans (hbel.mono hB3.size)
      obtain ⟨g0, g1, g2, g3, g4⟩ := Cells.c5 (hcl.keep (hB4.block b hb))
      have htk : l.reverse.take (m + 1) = l.reverse.take m ++ [l[j]] := by
        rw [List.take_succ_eq_append_getElem (by simpa using hlt), List.getElem_reverse]
        congr 3
        omega
      have hbl : (l.reverse.take m).length = m := by rw [List.length_take, List.length_reverse]; omega
      clear hcl
      generalize l[j] = x at *
      obtain ⟨xd, xq, ⟨xA, xc, xl⟩, xt, xx⟩ := x
      generalize l.reverse.take m = bl at *
      have HTK := Lib.hid htk
      have HJI := Lib.hid hji
      have HOW := Lib.hid hown
      have hz4 : w3.heap.size ≤ wr.heap.size := hbel.size
      have HBL := Lib.hid hbl
      have hbl2 : bl.length ≤ 20 := by omega
      clear htk hji hown hbl hwl
      go_wp2_with (at_builtin; go_must (refine wpl_append_sl (base := w3.heap.size) _ rfl (.tmp 35) (.tmp 40) _ rfl Try.underlying23 infoNote (by omega) Note.k Note.one ⟨BA, BC, bl⟩ ⟨some ⟨wr.heap.size, 0, none⟩, 1, [⟨xd, xq, ⟨xA, xc, xl⟩, xt, xx⟩]⟩ rfl rfl (HOW.out.alloc _) (rd_blk Note.k (Blk.new _ _ _) (by simp) (by simp [maxLen])) (by simp [maxLen]; omega) (by simp; omega) (by simp; omega) ?_); intro A6 c6 w6 hown6 hg6 hat6; apply Hid.out)
      refine Lib.hid ?_
      have hB6 : Below w3.heap.size w3 w6 := Below.grown (hbel.alloc hbel.size _) hg6 (by simp; omega) (by
        intro q' hq'
        rcases HOW.out.form with ⟨hA, _⟩ | ⟨g, hA, h1, _⟩
        · simp only at hA; subst hA; cases hq'
        · simp only at hA; subst hA; simp only [Value.ownBlock, Option.some.injEq] at hq'; omega)
      have HO6 := Lib.hid hown6
      clear hown6 hg6 hat6
      go_wp2_with fail
      go_roundw
      case rel => exact ⟨m + 1, A6, c6, by omega, by have := HJI.out; first | (congr 1; omega) | omega, by rw [HTK.out]; simp [Act.eval, go_sem], by rw [HTK.out]; exact HO6.out, hB6⟩
      case measure => first | (simp [intOf]; done) | (simp [intOf]; omega)
    · obtain rfl : m = l.length := by omega
      have hrv : l.reverse.take l.length = l.reverse := by rw [List.take_of_length_le (by simp)]
      rw [hrv] at hown
      rw [hrv, show (l.length : Int) - 1 - l.length = -1 by omega]
      have hrl : l.reverse.length = l.length := List.length_reverse
      have HRL := Lib.hid hrl
      have HOW := Lib.hid hown
      clear hrv hown hlt hwl hrl
      have hbk : RdNotes (· < wr.heap.size) wr ⟨BA, BC, l.reverse⟩ := by
        refine ⟨(HOW.out.rd Note.k).mono (fun b hb => hb.2), fun n hn => ?_⟩
        exact (HR.out.2 n (by simpa using hn)).below' (hB3.trans (hbel.mono hB3.size)) (Nat.le_refl _)
      have HBK := Lib.hid hbk
      clear hbk
      have hmo := morder ⟨BA, BC, l.reverse⟩ wr HBK.out
      simp only [List.length_reverse, List.map_reverse] at hmo
      go_wp2_with fail
      refine hmo.mono ?_
      rintro e w4 ⟨⟨pA, pc, pl⟩, rfl, hpl, hpr, hb4⟩
      have hB4 : Below w3.heap.size w3 w4 := hbel.trans (hb4.mono hbel.size)
      have hB5 : Below w.heap.size w w4 := hB3.trans (hB4.mono hB3.size)
      have hord := ordN_perm (List.reverse_perm (l.map Note.d))
      have hoE : ol = natI (ordN (l.map Note.d)).1 := HOL.out
      have hpE : pl = natI (ordN (l.map Note.d).reverse).1 := hpl
      rw [hord.1]
      have HPR := Lib.hid (hpr.mono (G := fun b => b < w4.heap.size) (fun b hb => hb.2))
      have HOR4 := Lib.hid (HOR.out.below' hB4 (Nat.le_refl _))
      have HBK4 := Lib.hid (HBK.out.later hb4 (Nat.le_refl _))
      clear hb4 hpl hpr
      by_cases hE : (ordN (l.map Note.d)).2 = 0
      · rw [hE]
        have hok := ord_ok hE
        have hok' := ord_ok (hord.1.trans hE)
        have hmap := hord.2
        generalize (ordN (l.map Note.d)).1 = o at *
        generalize (ordN (l.map Note.d).reverse).1 = p at *
        have hol : o.length = l.length := by rw [hok.len, List.length_map]
        have hpl : p.length = l.length := by rw [hok'.len, List.length_reverse, List.length_map]
        have hnol : (natI o).length = l.length := by rw [natI_len, hol]
        have hnpl : (natI p).length = l.length := by rw [natI_len, hpl]
        have hsame : ∀ t, (ht1 : t < o.length) → (ht2 : t < p.length) → at! (l.map Note.d) o[t] = at! (l.map Note.d).reverse p[t] := by
          intro t ht1 ht2
          have h1 : (p.map (at! (l.map Note.d).reverse))[t]? = (o.map (at! (l.map Note.d)))[t]? := by rw [hmap]
          rw [List.getElem?_map, List.getElem?_map, List.getElem?_eq_getElem ht2, List.getElem?_eq_getElem ht1] at h1
          simp only [Option.map_some, Option.some.injEq] at h1
          exact h1.symm
        subst hoE hpE
        have HOK := Lib.hid hok
        have HOL2 := Lib.hid hol
        have HPL2 := Lib.hid hpl
        have HNO := Lib.hid hnol
        have HNP := Lib.hid hnpl
        have HSA := Lib.hid hsame
        have hOA : Rd (· < w4.heap.size) 1 ienc w4 ⟨oA, oc, natI o⟩ := HOR4.out
        have hPA : Rd (· < w4.heap.size) 1 ienc w4 ⟨pA, pc, natI p⟩ := HPR.out
        have HOA := Lib.hid hOA
        have HPA := Lib.hid hPA
        have hpr2 : ∀ t, (ht : t < p.length) → p[t] < l.length := fun t ht => by have := (hok'.rdy ht).1; simpa using this
        have hor2 : ∀ t, (ht : t < o.length) → o[t] < l.length := fun t ht => by have := (hok.rdy ht).1; simpa using this
        have HPR2 := Lib.hid hpr2
        have HOR2 := Lib.hid hor2
        have hmk := make_ints l.length (by omega)
        rw [hnol, hnpl]
        clear HOR4 HPR HOR HOL hOA hPA hsame hok hok' hmap hord hE hpr2 hor2 hol hpl hnol hnpl
        go_wp2_with fail
        have hz5 : w.heap.size ≤ w4.heap.size := hB5.size
        clear hmk
        go_loopw [11] (fun i wr => ∃ (m : Nat) (tn : List Int), m ≤ l.length ∧ i = .int .i64 m ∧ TnOK o l.length m tn ∧ Blk wr w4.heap.size 3 (dnC tn) ∧ Below w4.heap.size w4 wr) (fun i _ => l.length - (intOf i).toNat)
        case atStart => exact ⟨0, List.replicate l.length 0, by omega, rfl, TnOK.start _ _, Blk.new _ _ _, (by repeat (first | (with_reducible exact Below.refl _ _) | ((with_reducible refine below_setr ?_ ?_); focus (first | (simp; done) | (simp; omega) | omega)) | ((with_reducible refine below_allocr ?_ ?_); focus (first | (simp; done) | (simp; omega) | omega)) | (with_reducible refine Below.drew ?_) | (with_reducible refine below_drewN ?_ _)))⟩
        case round =>
          obtain ⟨m, tn, hm, rfl, htn, hbk, hbt⟩ := hrel
          have hB6 : Below w.heap.size w wr := hB5.trans (hbt.mono hz5)
          by_cases hml : m < l.length
          · have hml' : (m : Int) < (l.length : Int) := by omega
            have hmo : m < o.length := by have := HOL2.out; omega
            have hmp : m < p.length := by have := HPL2.out; omega
            have hom := HOR2.out m hmo
            have hpm := HPR2.out m hmp
            have hsm := HSA.out m hmo hmp
            have htz := htn.zero hmo HOK.out.inj
            have hts := htn.step hmo hom HOK.out.inj
            obtain ⟨bo, oo, hA1, hbo, hco⟩ := HOA.out.at1 (show m < (natI o).length by rw [natI_len]; exact hmo)
            obtain ⟨bp, op, hA2, hbp, hcp⟩ := HPA.out.at1 (show m < (natI p).length by rw [natI_len]; exact hmp)
            have eo : (natI o)[m]'(by rw [natI_len]; exact hmo) = ((o[m] : Nat) : Int) := by unfold natI; simp
            have ep : (natI p)[m]'(by rw [natI_len]; exact hmp) = ((p[m] : Nat) : Int) := by unfold natI; simp
            have co := (hco.keep (hbt.block bo hbo)).c1
            have cp := (hcp.keep (hbt.block bp hbp)).c1
            simp only [Nat.mul_one] at co cp
            rw [eo] at co
            rw [ep] at cp
            simp only at hA1 hA2
            subst hA1 hA2
            clear hco hcp eo ep
            generalize o[m] = om at *
            generalize p[m] = pm at *
            obtain ⟨b, ox, rfl, hb, hcl⟩ := HR.out.1.at1 hom
            obtain ⟨g0, g1, g2, g3, g4⟩ := Cells.c5 (hcl.keep (hB6.block b hb))
            have hpm' : pm < l.reverse.length := by rw [List.length_reverse]; exact hpm
            obtain ⟨b2, o2, hA3, hb2, hcl2⟩ := HBK4.out.1.at1 hpm'
            obtain ⟨j0, j1, j2, j3, j4⟩ := Cells.c5 (hcl2.keep (hbt.block b2 hb2))
            simp only at hA3
            subst hA3
            have hxa := (HR.out.2 _ (List.getElem_mem hom)).below' hB6 (Nat.le_refl _)
            have hya := (HBK4.out.2 _ (List.getElem_mem hpm')).below' hbt (Nat.le_refl _)
            rw [← List.map_reverse, at!_map2 hom, at!_map2 hpm'] at hsm
            clear hcl hcl2
            generalize l[om] = x at *
            generalize l.reverse[pm] = y at *
            obtain ⟨xd, xq, ⟨xA, xc, xl⟩, xt, xx⟩ := x
            obtain ⟨yd, yq, ⟨yA, yc, yl⟩, yt, yx⟩ := y
            have hom' : (om : Int) < (l.length : Int) := by omega
            have hpm2 : (pm : Int) < (l.length : Int) := by omega
            have hn1 : ¬ ((om : Int) < 0) := by omega
            have hn2 : ¬ ((pm : Int) < 0) := by omega
            have HXA := Lib.hid hxa
            have HYA := Lib.hid hya
            have HSM := Lib.hid hsm
            have HTS := Lib.hid hts
            have HBK := Lib.hid hbk
            have HTN := Lib.hid htn
            have HTZ := Lib.hid htz
            clear hxa hya hsm hts hbk htn htz
            go_wp2_with fail
            refine wp_region_T (fun w' => w'.cell? ⟨bo, oo + m, none⟩ = some (.int .i64 om) ∧ w'.cell? ⟨bp, op + m, none⟩ = some (.int .i64 pm) ∧ (w'.cell? ⟨b, ox + om * 5, none⟩ = some (.int .i64 xd) ∧ w'.cell? ⟨b, ox + om * 5 + 1, none⟩ = some (.int .i64 xq) ∧ w'.cell? ⟨b, ox + om * 5 + 2, none⟩ = some (.slice xA xl.length xc) ∧ w'.cell? ⟨b, ox + om * 5 + 3, none⟩ = some (.int .i64 xt) ∧ w'.cell? ⟨b, ox + om * 5 + 4, none⟩ = some (.string xx)) ∧ (w'.cell? ⟨b2, o2 + pm * 5, none⟩ = some (.int .i64 yd) ∧ w'.cell? ⟨b2, o2 + pm * 5 + 1, none⟩ = some (.int .i64 yq) ∧ w'.cell? ⟨b2, o2 + pm * 5 + 2, none⟩ = some (.slice yA yl.length yc) ∧ w'.cell? ⟨b2, o2 + pm * 5 + 3, none⟩ = some (.int .i64 yt) ∧ w'.cell? ⟨b2, o2 + pm * 5 + 4, none⟩ = some (.string yx))) (fun _ => false) (by kernel_rfl) ⟨co, cp, ⟨g0, g1, g2, g3, g4⟩, j0, j1, j2, j3, j4⟩ (fun hHeld => ?_)
            refine wpAnyT_take2 (i := 0) (v := ?_) rfl rfl (by kernel_rfl) (by kernel_rfl) (by kernel_rfl) (by kernel_rfl) (fun _ _ _ h => h) (Or.inl ⟨by rfl, ?_⟩) (by first | assumption | trivial) ?_
            rotate_left
            · (intro w hSw; (try dsimp only at hSw); go_simp) <;> (with_reducible rfl)
            simp only [List.setIfInBounds_toArray, List.set_cons_zero, List.set_cons_succ]
            refine wpAnyT_take2 (i := 1) (v := ?_) rfl rfl (by kernel_rfl) (by kernel_rfl) (by kernel_rfl) (by kernel_rfl) (fun _ _ _ h => h) (Or.inl ⟨by rfl, ?_⟩) (by first | assumption | trivial) ?_
            rotate_left
            · (intro w hSw; (try dsimp only at hSw); go_simp) <;> (with_reducible rfl)
            simp only [List.setIfInBounds_toArray, List.set_cons_zero, List.set_cons_succ]
            refine wpAnyT_take2 (i := 2) (v := ?_) rfl rfl (by kernel_rfl) (by kernel_rfl) (by kernel_rfl) (by kernel_rfl) (fun _ _ _ h => h) (Or.inl ⟨by rfl, ?_⟩) (by first | assumption | trivial) ?_
            rotate_left
            · (intro w hSw; (try dsimp only at hSw); go_simp) <;> (with_reducible rfl)
            simp only [List.setIfInBounds_toArray, List.set_cons_zero, List.set_cons_succ]
            refine wpAnyT_take2 (i := 3) (v := ?_) rfl rfl (by kernel_rfl) (by kernel_rfl) (by kernel_rfl) (by kernel_rfl) (fun _ _ _ h => h) (Or.inl ⟨by rfl, ?_⟩) (by first | assumption | trivial) ?_
            rotate_left
            · (intro w hSw; (try dsimp only at hSw); go_simp) <;> (with_reducible rfl)
            simp only [List.setIfInBounds_toArray, List.set_cons_zero, List.set_cons_succ]
            refine wpAnyT_take2 (i := 4) (v := ?_) rfl rfl (by kernel_rfl) (by kernel_rfl) (by kernel_rfl) (by kernel_rfl) (fun _ _ _ h => h) (Or.inl ⟨by rfl, ?_⟩) (by first | assumption | trivial) ?_
            rotate_left
            · (intro w hSw; (try dsimp only at hSw); go_simp) <;> (with_reducible rfl)
            simp only [List.setIfInBounds_toArray, List.set_cons_zero, List.set_cons_succ]
            refine wpAnyT_take2 (i := 5) (v := ?_) rfl rfl (by kernel_rfl) (by kernel_rfl) (by kernel_rfl) (by kernel_rfl) (fun _ _ _ h => h) (Or.inl ⟨by rfl, ?_⟩) (by first | assumption | trivial) ?_
            rotate_left
            · (intro w hSw; (try dsimp only at hSw); go_simp) <;> (with_reducible rfl)
            simp only [List.setIfInBounds_toArray, List.set_cons_zero, List.set_cons_succ]
            refine wpAnyT_take2 (i := 6) (v := ?_) rfl rfl (by kernel_rfl) (by kernel_rfl) (by kernel_rfl) (by kernel_rfl) (fun _ _ _ h => h) (Or.inl ⟨by rfl, ?_⟩) (by first | assumption | trivial) ?_
            rotate_left
            · (intro w hSw; (try dsimp only at hSw); go_simp) <;> (with_reducible rfl)
            simp only [List.setIfInBounds_toArray, List.set_cons_zero, List.set_cons_succ]
            refine wpAnyT_take2 (i := 7) (v := ?_) rfl rfl (by kernel_rfl) (by kernel_rfl) (by kernel_rfl) (by kernel_rfl) (fun _ _ _ h => h) (Or.inl ⟨by rfl, ?_⟩) (by first | assumption | trivial) ?_
            rotate_left
            · (intro w hSw; (try dsimp only at hSw); go_simp) <;> (with_reducible rfl)
            simp only [List.setIfInBounds_toArray, List.set_cons_zero, List.set_cons_succ]
            refine wpAnyT_take2 (i := 8) (v := ?_) rfl rfl (by kernel_rfl) (by kernel_rfl) (by kernel_rfl) (by kernel_rfl) (fun _ _ _ h => h) (Or.inl ⟨by rfl, ?_⟩) (by first | assumption | trivial) ?_
            rotate_left
            · (intro w hSw; (try dsimp only at hSw); go_simp) <;> (with_reducible rfl)
            simp only [List.setIfInBounds_toArray, List.set_cons_zero, List.set_cons_succ]
            refine wpAnyT_take2 (i := 9) (v := ?_) rfl rfl (by kernel_rfl) (by kernel_rfl) (by kernel_rfl) (by kernel_rfl) (fun _ _ _ h => h) (Or.inl ⟨by rfl, ?_⟩) (by first | assumption | trivial) ?_
            rotate_left
            · (intro w hSw; (try dsimp only at hSw); go_simp) <;> (with_reducible rfl)
            simp only [List.setIfInBounds_toArray, List.set_cons_zero, List.set_cons_succ]
            refine wpAnyT_take2 (i := 10) (v := ?_) rfl rfl (by kernel_rfl) (by kernel_rfl) (by kernel_rfl) (by kernel_rfl) (fun _ _ _ h => h) (Or.inl ⟨by rfl, ?_⟩) (by first | assumption | trivial) ?_
            rotate_left
            · (intro w hSw; (try dsimp only at hSw); go_simp) <;> (with_reducible rfl)
            simp only [List.setIfInBounds_toArray, List.set_cons_zero, List.set_cons_succ]
            refine wpAnyT_take2 (i := 11) (v := ?_) rfl rfl (by kernel_rfl) (by kernel_rfl) (by kernel_rfl) (by kernel_rfl) (fun _ _ _ h => h) (Or.inl ⟨by rfl, ?_⟩) (by first | assumption | trivial) ?_
            rotate_left
            · (intro w hSw; (try dsimp only at hSw); go_simp) <;> (with_reducible rfl)
            simp only [List.setIfInBounds_toArray, List.set_cons_zero, List.set_cons_succ]
            refine wpAnyT_take2 (i := 12) (v := ?_) rfl rfl (by kernel_rfl) (by kernel_rfl) (by kernel_rfl) (by kernel_rfl) (fun _ _ _ h => h) (Or.inl ⟨by rfl, ?_⟩) (by first | assumption | trivial) ?_
            rotate_left
            · (intro w hSw; (try dsimp only at hSw); go_simp) <;> (with_reducible rfl)
            simp only [List.setIfInBounds_toArray, List.set_cons_zero, List.set_cons_succ]
            refine wpAnyT_take2 (i := 13) (v := ?_) rfl rfl (by kernel_rfl) (by kernel_rfl) (by kernel_rfl) (by kernel_rfl) (fun _ _ _ h => h) (Or.inl ⟨by rfl, ?_⟩) (by first | assumption | trivial) ?_
            rotate_left
            · (intro w hSw; (try dsimp only at hSw); go_simp) <;> (with_reducible rfl)
            simp only [List.setIfInBounds_toArray, List.set_cons_zero, List.set_cons_succ]
            clear hHeld
            refine wpAnyT_next (i := 14) (by kernel_rfl) rfl ?_
            go_wp2_with fail
            have hsa : Calls Try.prog 45 #[.agg #[.int .i64 xd, .int .i64 xq, .slice xA xl.length xc, .int .i64 xt, .string xx], .agg #[.int .i64 yd, .int .i64 yq, .slice yA yl.length yc, .int .i64 yt, .string yx]] wr.drew fun e w' => e = .returned (.bool true) ∧ Below wr.drew.heap.size wr.drew w' := by
              have := rsame ⟨xd, xq, ⟨xA, xc, xl⟩, xt, xx⟩ ⟨yd, yq, ⟨yA, yc, yl⟩, yt, yx⟩ wr.drew HXA.out HYA.out
              rw [HSM.out, NoteD.same_refl] at this
              exact this
            refine hsa.mono ?_
            rintro e w7 ⟨rfl, hb7⟩
            have hB7 : Below wr.heap.size wr w7 := Below.trans (Below.drew (Below.refl _ _)) hb7
            clear hsa hb7
            go_wp2_with fail
            refine ⟨(by first | exact ⟨keep_cell hB7 co, keep_cell hB7 cp, ⟨keep_cell hB7 g0, keep_cell hB7 g1, keep_cell hB7 g2, keep_cell hB7 g3, keep_cell hB7 g4⟩, keep_cell hB7 j0, keep_cell hB7 j1, keep_cell hB7 j2, keep_cell hB7 j3, keep_cell hB7 j4⟩ | exact fun _ => ⟨keep_cell hB7 co, keep_cell hB7 cp, ⟨keep_cell hB7 g0, keep_cell hB7 g1, keep_cell hB7 g2, keep_cell hB7 g3, keep_cell hB7 g4⟩, keep_cell hB7 j0, keep_cell hB7 j1, keep_cell hB7 j2, keep_cell hB7 j3, keep_cell hB7 j4⟩), ?_⟩
            have co2 := keep_cell hB7 co
            have hHeld := And.intro co2 (And.intro (keep_cell hB7 cp) (And.intro (And.intro (keep_cell hB7 g0) (And.intro (keep_cell hB7 g1) (And.intro (keep_cell hB7 g2) (And.intro (keep_cell hB7 g3) (keep_cell hB7 g4))))) (And.intro (keep_cell hB7 j0) (And.intro (keep_cell hB7 j1) (And.intro (keep_cell hB7 j2) (And.intro (keep_cell hB7 j3) (keep_cell hB7 j4)))))))
            refine wpAnyT_take2 (i := 15) (v := ?_) rfl rfl (by kernel_rfl) (by kernel_rfl) (by kernel_rfl) (by kernel_rfl) (fun _ _ _ h => h) (Or.inl ⟨by rfl, ?_⟩) (by first | assumption | trivial) ?_
            rotate_left
            · (intro w hSw; (try dsimp only at hSw); go_simp) <;> (with_reducible rfl)
            simp only [List.setIfInBounds_toArray, List.set_cons_zero, List.set_cons_succ]
            refine wpAnyT_done (by kernel_rfl) ?_ _
            clear hHeld co cp g0 g1 g2 g3 g4 j0 j1 j2 j3 j4
            have hbk7 := HBK.out.later hB7
            have hct := dn_cell hbk7 (show om < tn.length by rw [HTN.out.len]; exact hom)
            have hfz := hbk7.frozen om
            rw [HTZ.out] at hct
            have hbs := hbk7.set_ om (.int .i64 ((m : Int) + 1))
            rw [dn_set] at hbs
            have hw1 : IntKind.i64.wrap (0 + (m : Int)) = (m : Int) := by rw [IntKind.wrap_i64]; omega
            have hw2 : IntKind.i64.wrap ((m : Int) + 1) = (m : Int) + 1 := by rw [IntKind.wrap_i64]; omega
            have hbt7 : Below w4.heap.size w4 w7 := hbt.trans (hB7.mono hbt.size)
            have HBS := Lib.hid hbs
            clear hbk7 hbs
            go_wp2_with fail
            refine wp_region_T (fun w' => w'.cell? ⟨bo, oo + m, none⟩ = some (.int .i64 om) ∧ w'.cell? ⟨w4.heap.size, om, none⟩ = some (.int .i64 0)) (fun i => 16 ≤ i) (by kernel_rfl) ⟨co2, hct⟩ (fun hHeld => ?_)
            refine wpAnyT_take2 (i := 0) (v := ?_) rfl rfl (by kernel_rfl) (by kernel_rfl) (by kernel_rfl) (by kernel_rfl) (fun _ _ _ h => h) (Or.inl ⟨by rfl, ?_⟩) (by first | assumption | trivial) ?_
            rotate_left
            · (intro w hSw; (try dsimp only at hSw); go_simp) <;> (with_reducible rfl)
            simp only [List.setIfInBounds_toArray, List.set_cons_zero, List.set_cons_succ]
            refine wpAnyT_take2 (i := 1) (v := ?_) rfl rfl (by kernel_rfl) (by kernel_rfl) (by kernel_rfl) (by kernel_rfl) (fun _ _ _ h => h) (Or.inl ⟨by rfl, ?_⟩) (by first | assumption | trivial) ?_
            rotate_left
            · (intro w hSw; (try dsimp only at hSw); go_simp) <;> (with_reducible rfl)
            simp only [List.setIfInBounds_toArray, List.set_cons_zero, List.set_cons_succ]
            refine wpAnyT_take2 (i := 2) (v := ?_) rfl rfl (by kernel_rfl) (by kernel_rfl) (by kernel_rfl) (by kernel_rfl) (fun _ _ _ h => h) (Or.inl ⟨by rfl, ?_⟩) (by first | assumption | trivial) ?_
            rotate_left
            · (intro w hSw; (try dsimp only at hSw); go_simp) <;> (with_reducible rfl)
            simp only [List.setIfInBounds_toArray, List.set_cons_zero, List.set_cons_succ]
            refine wpAnyT_take2 (i := 3) (v := ?_) rfl rfl (by kernel_rfl) (by kernel_rfl) (by kernel_rfl) (by kernel_rfl) (fun _ _ _ h => h) (Or.inl ⟨by rfl, ?_⟩) (by first | assumption | trivial) ?_
            rotate_left
            · (intro w hSw; (try dsimp only at hSw); go_simp) <;> (with_reducible rfl)
            simp only [List.setIfInBounds_toArray, List.set_cons_zero, List.set_cons_succ]
            refine wpAnyT_take2 (i := 4) (v := ?_) rfl rfl (by kernel_rfl) (by kernel_rfl) (by kernel_rfl) (by kernel_rfl) (fun _ _ _ h => h) (Or.inl ⟨by rfl, ?_⟩) (by first | assumption | trivial) ?_
            rotate_left
            · (intro w hSw; (try dsimp only at hSw); go_simp) <;> (with_reducible rfl)
            simp only [List.setIfInBounds_toArray, List.set_cons_zero, List.set_cons_succ]
            refine wpAnyT_take2 (i := 5) (v := ?_) rfl rfl (by kernel_rfl) (by kernel_rfl) (by kernel_rfl) (by kernel_rfl) (fun _ _ _ h => h) (Or.inl ⟨by rfl, ?_⟩) (by first | assumption | trivial) ?_
            rotate_left
            · (intro w hSw; (try dsimp only at hSw); go_simp) <;> (with_reducible rfl)
            simp only [List.setIfInBounds_toArray, List.set_cons_zero, List.set_cons_succ]
            refine wpAnyT_take2 (i := 6) (v := ?_) rfl rfl (by kernel_rfl) (by kernel_rfl) (by kernel_rfl) (by kernel_rfl) (fun _ _ _ h => h) (Or.inl ⟨by rfl, ?_⟩) (by first | assumption | trivial) ?_
            rotate_left
            · (intro w hSw; (try dsimp only at hSw); go_simp) <;> (with_reducible rfl)
            simp only [List.setIfInBounds_toArray, List.set_cons_zero, List.set_cons_succ]
            refine wpAnyT_take2 (i := 7) (v := ?_) rfl rfl (by kernel_rfl) (by kernel_rfl) (by kernel_rfl) (by kernel_rfl) (fun _ _ _ h => h) (Or.inl ⟨by rfl, ?_⟩) (by first | assumption | trivial) ?_
            rotate_left
            · (intro w hSw; (try dsimp only at hSw); go_simp) <;> (with_reducible rfl)
            simp only [List.setIfInBounds_toArray, List.set_cons_zero, List.set_cons_succ]
            refine wpAnyT_take2 (i := 8) (v := ?_) rfl rfl (by kernel_rfl) (by kernel_rfl) (by kernel_rfl) (by kernel_rfl) (fun _ _ _ h => h) (Or.inl ⟨by rfl, ?_⟩) (by first | assumption | trivial) ?_
            rotate_left
            · (intro w hSw; (try dsimp only at hSw); go_simp) <;> (with_reducible rfl)
            simp only [List.setIfInBounds_toArray, List.set_cons_zero, List.set_cons_succ]
            refine wpAnyT_take2 (i := 9) (v := ?_) rfl rfl (by kernel_rfl) (by kernel_rfl) (by kernel_rfl) (by kernel_rfl) (fun _ _ _ h => h) (Or.inl ⟨by rfl, ?_⟩) (by first | assumption | trivial) ?_
            rotate_left
            · (intro w hSw; (try dsimp only at hSw); go_simp) <;> (with_reducible rfl)
            simp only [List.setIfInBounds_toArray, List.set_cons_zero, List.set_cons_succ]
            refine wpAnyT_take2 (i := 10) (v := ?_) rfl rfl (by kernel_rfl) (by kernel_rfl) (by kernel_rfl) (by kernel_rfl) (fun _ _ _ h => h) (Or.inl ⟨by rfl, ?_⟩) (by first | assumption | trivial) ?_
            rotate_left
            · (intro w hSw; (try dsimp only at hSw); go_simp) <;> (with_reducible rfl)
            simp only [List.setIfInBounds_toArray, List.set_cons_zero, List.set_cons_succ]
            refine wpAnyT_take2 (i := 11) (v := ?_) rfl rfl (by kernel_rfl) (by kernel_rfl) (by kernel_rfl) (by kernel_rfl) (fun _ _ _ h => h) (Or.inl ⟨by rfl, ?_⟩) (by first | assumption | trivial) ?_
            rotate_left
            · (intro w hSw; (try dsimp only at hSw); go_simp) <;> (with_reducible rfl)
            simp only [List.setIfInBounds_toArray, List.set_cons_zero, List.set_cons_succ]
            refine wpAnyT_take2 (i := 12) (v := ?_) rfl rfl (by kernel_rfl) (by kernel_rfl) (by kernel_rfl) (by kernel_rfl) (fun _ _ _ h => h) (Or.inl ⟨by rfl, ?_⟩) (by first | assumption | trivial) ?_
            rotate_left
            · (intro w hSw; (try dsimp only at hSw); go_simp) <;> (with_reducible rfl)
            simp only [List.setIfInBounds_toArray, List.set_cons_zero, List.set_cons_succ]
            refine wpAnyT_take2 (i := 13) (v := ?_) rfl rfl (by kernel_rfl) (by kernel_rfl) (by kernel_rfl) (by kernel_rfl) (fun _ _ _ h => h) (Or.inl ⟨by rfl, ?_⟩) (by first | assumption | trivial) ?_
            rotate_left
            · (intro w hSw; (try dsimp only at hSw); go_simp) <;> (with_reducible rfl)
            simp only [List.setIfInBounds_toArray, List.set_cons_zero, List.set_cons_succ]
            refine wpAnyT_take2 (i := 14) (v := ?_) rfl rfl (by kernel_rfl) (by kernel_rfl) (by kernel_rfl) (by kernel_rfl) (fun _ _ _ h => h) (Or.inl ⟨by rfl, ?_⟩) (by first | assumption | trivial) ?_
            rotate_left
            · (intro w hSw; (try dsimp only at hSw); go_simp) <;> (with_reducible rfl)
            simp only [List.setIfInBounds_toArray, List.set_cons_zero, List.set_cons_succ]
            refine wpAnyT_take2 (i := 15) (v := ?_) rfl rfl (by kernel_rfl) (by kernel_rfl) (by kernel_rfl) (by kernel_rfl) (fun _ _ _ h => h) (Or.inl ⟨by rfl, ?_⟩) (by first | assumption | trivial) ?_
            rotate_left
            · (intro w hSw; (try dsimp only at hSw); go_simp) <;> (with_reducible rfl)
            simp only [List.setIfInBounds_toArray, List.set_cons_zero, List.set_cons_succ]
            clear hHeld
            refine wpAnyT_next (i := 16) (by kernel_rfl) rfl ?_
            go_wp2_with fail
            try simp only [QT]
            try (with_reducible refine And.intro (fun h => by simp at h) ?_)
            refine wpAnyT_done (by kernel_rfl) ?_ _
            clear co2 hct hfz
            go_wp2_with fail
            go_roundw
            case rel => exact ⟨m + 1, tn.set om ((m : Int) + 1), by omega, by go_num, HTS.out, HBS.out, (by repeat (first | (with_reducible exact hbt7) | (with_reducible exact Below.refl _ _) | ((with_reducible refine below_setr ?_ ?_); focus (first | (simp; done) | (simp; omega) | omega)) | ((with_reducible refine below_allocr ?_ ?_); focus (first | (simp; done) | (simp; omega) | omega)) | (with_reducible refine Below.drew ?_) | (with_reducible refine below_drewN ?_ _) | ((with_reducible apply below_via); focus (with_reducible assumption))))⟩
            case measure => simp [intOf]; omega
          · obtain rfl : m = l.length := by omega
            have HTN := Lib.hid htn
            have HBK := Lib.hid hbk
            have hz6 : w4.heap.size ≤ wr.heap.size := hbt.size
            have HO9 := Lib.hid (HOA.out.below' hbt (Nat.le_refl _))
            have HB9 := Lib.hid hB6
            clear htn hbk hml HPA HBK4 HPL2 HNP HPR2 HSA
            go_wp2_with fail
            obtain ⟨wo, hwo⟩ : ∃ x, x = wr := ⟨_, rfl⟩
            subst hwo
            go_loopw [12] (fun i wr => ∃ (k : Nat), k ≤ l.length ∧ i = .int .i64 k ∧ Below wo.heap.size wo wr) (fun i _ => l.length - (intOf i).toNat)
            case atStart => exact ⟨0, by omega, rfl, Below.refl _ _⟩
            case round =>
              obtain ⟨k, hk, rfl, hbo⟩ := hrel
              by_cases hkl : k < l.length
              · have hkl' : (k : Int) < (l.length : Int) := by omega
                obtain ⟨q, hq, hoq⟩ := HOK.out.surj (show k < (l.map Note.d).length by simpa using hkl)
                have hql : q < l.length := by have := HOL2.out; omega
                have hbk := HBK.out.later hbo
                have hck := dn_cell hbk (show k < tn.length by rw [HTN.out.len]; exact hkl)
                have htq := HTN.out.done q hq hql
                rw [hoq] at htq
                rw [htq] at hck
                obtain ⟨bo, oo, hA1, hbo1, hco⟩ := HO9.out.at1 (show q < (natI o).length by rw [natI_len]; exact hq)
                have eo : (natI o)[q]'(by rw [natI_len]; exact hq) = ((o[q] : Nat) : Int) := by unfold natI; simp
                have co := (hco.keep (hbo.block bo hbo1)).c1
                simp only [Nat.mul_one] at co
                rw [eo, hoq] at co
                simp only at hA1
                subst hA1
                have hw1 : IntKind.i64.wrap ((q : Int) + 1 - 1) = (q : Int) := by rw [IntKind.wrap_i64]; omega
                have hql' : (q : Int) < (l.length : Int) := by omega
                have hn1 : ¬ ((q : Int) + 1 < 1) := by omega
                have hn2 : ¬ ((l.length : Int) < (q : Int) + 1) := by omega
                have HOQ := Lib.hid hoq
                have hzo : wo.heap.size ≤ wr.heap.size := hbo.size
                clear hco eo htq hoq hbk
                have hnk : ((k : Int) != (k : Int)) = false := by simp
                have hq0 : (0 : Int) ≤ (q : Int) := by omega
                go_wp2_with fail
                obtain ⟨wp, hwp⟩ : ∃ x, x = wr := ⟨_, rfl⟩
                subst hwp
                clear hck co hn1 hn2 hnk hw1
                go_loopw [13] (fun i wr => ∃ (j : Nat), j ≤ l.length ∧ i = .int .i64 j ∧ Below wo.heap.size wo wr) (fun i _ => l.length - (intOf i).toNat)
                case atStart => exact ⟨0, by omega, rfl, hbo⟩
                case round =>
                  obtain ⟨j, hj, rfl, hbj⟩ := hrel
                  have hB7 : Below w.heap.size w wr := HB9.out.trans (hbj.mono HB9.out.size)
                  by_cases hjl : j < l.length
                  · have hjl' : (j : Int) < (l.length : Int) := by omega
                    obtain ⟨t, ht, hot⟩ := HOK.out.surj (show j < (l.map Note.d).length by simpa using hjl)
                    have htl : t < l.length := by have := HOL2.out; omega
                    have hbk := HBK.out.later hbj
                    have hck := dn_cell hbk (show k < tn.length by rw [HTN.out.len]; exact hkl)
                    have hcj := dn_cell hbk (show j < tn.length by rw [HTN.out.len]; exact hjl)
                    have htq := HTN.out.done q hq hql
                    have htt := HTN.out.done t ht htl
                    rw [HOQ.out] at htq
                    rw [hot] at htt
                    rw [htq] at hck
                    rw [htt] at hcj
                    have hbq := HOK.out.before hq ht
                    rw [HOQ.out, hot] at hbq
                    obtain ⟨b, ox, rfl, hb, hcl⟩ := HR.out.1.at1 hkl
                    obtain ⟨g0, g1, g2, g3, g4⟩ := Cells.c5 (hcl.keep (hB7.block b hb))
                    obtain ⟨b2, o2, hA3, hb2, hcl2⟩ := HR.out.1.at1 hjl
                    simp only [Option.some.injEq, Addr.mk.injEq, and_true] at hA3
                    obtain ⟨rfl, rfl⟩ := hA3
                    obtain ⟨j0, j1, j2, j3, j4⟩ := Cells.c5 (hcl2.keep (hB7.block b hb))
                    have hxa := (HR.out.2 _ (List.getElem_mem hkl)).below' hB7 (Nat.le_refl _)
                    have hya := (HR.out.2 _ (List.getElem_mem hjl)).below' hB7 (Nat.le_refl _)
                    rw [at!_map2 hkl, at!_map2 hjl] at hbq
                    clear hcl hcl2 htq htt hot hbk
                    generalize l[k] = x at *
                    generalize l[j] = y at *
                    obtain ⟨xd, xq, ⟨xA, xc, xl⟩, xt, xx⟩ := x
                    obtain ⟨yd, yq, ⟨yA, yc, yl⟩, yt, yx⟩ := y
                    have HXA := Lib.hid hxa
                    have HYA := Lib.hid hya
                    have HBQ := Lib.hid hbq
                    clear hxa hya hbq
                    go_wp2_with fail
                    refine wp_region_T (fun w' => w'.cell? ⟨w4.heap.size, k, none⟩ = some (.int .i64 ((q : Int) + 1)) ∧ w'.cell? ⟨w4.heap.size, j, none⟩ = some (.int .i64 ((t : Int) + 1)) ∧ (w'.cell? ⟨b, ox + k * 5, none⟩ = some (.int .i64 xd) ∧ w'.cell? ⟨b, ox + k * 5 + 1, none⟩ = some (.int .i64 xq) ∧ w'.cell? ⟨b, ox + k * 5 + 2, none⟩ = some (.slice xA xl.length xc) ∧ w'.cell? ⟨b, ox + k * 5 + 3, none⟩ = some (.int .i64 xt) ∧ w'.cell? ⟨b, ox + k * 5 + 4, none⟩ = some (.string xx)) ∧ (w'.cell? ⟨b, ox + j * 5, none⟩ = some (.int .i64 yd) ∧ w'.cell? ⟨b, ox + j * 5 + 1, none⟩ = some (.int .i64 yq) ∧ w'.cell? ⟨b, ox + j * 5 + 2, none⟩ = some (.slice yA yl.length yc) ∧ w'.cell? ⟨b, ox + j * 5 + 3, none⟩ = some (.int .i64 yt) ∧ w'.cell? ⟨b, ox + j * 5 + 4, none⟩ = some (.string yx))) (fun _ => false) (by kernel_rfl) ⟨hck, hcj, ⟨g0, g1, g2, g3, g4⟩, j0, j1, j2, j3, j4⟩ (fun hHeld => ?_)
                    refine wpAnyT_take2 (i := 0) (v := ?_) rfl rfl (by kernel_rfl) (by kernel_rfl) (by kernel_rfl) (by kernel_rfl) (fun _ _ _ h => h) (Or.inl ⟨by rfl, ?_⟩) (by first | assumption | trivial) ?_
                    rotate_left
                    · (intro w hSw; (try dsimp only at hSw); go_simp) <;> (with_reducible rfl)
                    simp only [List.setIfInBounds_toArray, List.set_cons_zero, List.set_cons_succ]
                    refine wpAnyT_take2 (i := 1) (v := ?_) rfl rfl (by kernel_rfl) (by kernel_rfl) (by kernel_rfl) (by kernel_rfl) (fun _ _ _ h => h) (Or.inl ⟨by rfl, ?_⟩) (by first | assumption | trivial) ?_
                    rotate_left
                    · (intro w hSw; (try dsimp only at hSw); go_simp) <;> (with_reducible rfl)
                    simp only [List.setIfInBounds_toArray, List.set_cons_zero, List.set_cons_succ]
                    refine wpAnyT_take2 (i := 2) (v := ?_) rfl rfl (by kernel_rfl) (by kernel_rfl) (by kernel_rfl) (by kernel_rfl) (fun _ _ _ h => h) (Or.inl ⟨by rfl, ?_⟩) (by first | assumption | trivial) ?_
                    rotate_left
                    · (intro w hSw; (try dsimp only at hSw); go_simp) <;> (with_reducible rfl)
                    simp only [List.setIfInBounds_toArray, List.set_cons_zero, List.set_cons_succ]
                    refine wpAnyT_take2 (i := 3) (v := ?_) rfl rfl (by kernel_rfl) (by kernel_rfl) (by kernel_rfl) (by kernel_rfl) (fun _ _ _ h => h) (Or.inl ⟨by rfl, ?_⟩) (by first | assumption | trivial) ?_
                    rotate_left
                    · (intro w hSw; (try dsimp only at hSw); go_simp) <;> (with_reducible rfl)
                    simp only [List.setIfInBounds_toArray, List.set_cons_zero, List.set_cons_succ]
                    refine wpAnyT_take2 (i := 4) (v := ?_) rfl rfl (by kernel_rfl) (by kernel_rfl) (by kernel_rfl) (by kernel_rfl) (fun _ _ _ h => h) (Or.inl ⟨by rfl, ?_⟩) (by first | assumption | trivial) ?_
                    rotate_left
                    · (intro w hSw; (try dsimp only at hSw); go_simp) <;> (with_reducible rfl)
                    simp only [List.setIfInBounds_toArray, List.set_cons_zero, List.set_cons_succ]
                    refine wpAnyT_take2 (i := 5) (v := ?_) rfl rfl (by kernel_rfl) (by kernel_rfl) (by kernel_rfl) (by kernel_rfl) (fun _ _ _ h => h) (Or.inl ⟨by rfl, ?_⟩) (by first | assumption | trivial) ?_
                    rotate_left
                    · (intro w hSw; (try dsimp only at hSw); go_simp) <;> (with_reducible rfl)
                    simp only [List.setIfInBounds_toArray, List.set_cons_zero, List.set_cons_succ]
                    refine wpAnyT_take2 (i := 6) (v := ?_) rfl rfl (by kernel_rfl) (by kernel_rfl) (by kernel_rfl) (by kernel_rfl) (fun _ _ _ h => h) (Or.inl ⟨by rfl, ?_⟩) (by first | assumption | trivial) ?_
                    rotate_left
                    · (intro w hSw; (try dsimp only at hSw); go_simp) <;> (with_reducible rfl)
                    simp only [List.setIfInBounds_toArray, List.set_cons_zero, List.set_cons_succ]
                    refine wpAnyT_take2 (i := 7) (v := ?_) rfl rfl (by kernel_rfl) (by kernel_rfl) (by kernel_rfl) (by kernel_rfl) (fun _ _ _ h => h) (Or.inl ⟨by rfl, ?_⟩) (by first | assumption | trivial) ?_
                    rotate_left
                    · (intro w hSw; (try dsimp only at hSw); go_simp) <;> (with_reducible rfl)
                    simp only [List.setIfInBounds_toArray, List.set_cons_zero, List.set_cons_succ]
                    clear hHeld
                    refine wpAnyT_next (i := 8) (by kernel_rfl) rfl ?_
                    go_wp2_with fail
                    refine (mbefore ⟨xd, xq, ⟨xA, xc, xl⟩, xt, xx⟩ ⟨yd, yq, ⟨yA, yc, yl⟩, yt, yx⟩ wr.drew HXA.out HYA.out).mono ?_
                    rintro e w7 ⟨rfl, hb7⟩
                    have hB8 : Below wr.heap.size wr w7 := Below.trans (Below.drew (Below.refl _ _)) hb7
                    have hbj7 : Below wo.heap.size wo w7 := hbj.trans (hB8.mono hbj.size)
                    generalize hbf : beforeN (Note.d ⟨xd, xq, ⟨xA, xc, xl⟩, xt, xx⟩) (Note.d ⟨yd, yq, ⟨yA, yc, yl⟩, yt, yx⟩) = bf at *
                    have hqt : bf = true → q < t := by first | exact HBQ.out | exact fun h => HBQ.out (hbf.trans h)
                    clear hb7 hbf HBQ
                    go_wp2_with fail
                    refine ⟨(by first | exact ⟨keep_cell hB8 hck, keep_cell hB8 hcj, ⟨keep_cell hB8 g0, keep_cell hB8 g1, keep_cell hB8 g2, keep_cell hB8 g3, keep_cell hB8 g4⟩, keep_cell hB8 j0, keep_cell hB8 j1, keep_cell hB8 j2, keep_cell hB8 j3, keep_cell hB8 j4⟩ | exact fun _ => ⟨keep_cell hB8 hck, keep_cell hB8 hcj, ⟨keep_cell hB8 g0, keep_cell hB8 g1, keep_cell hB8 g2, keep_cell hB8 g3, keep_cell hB8 g4⟩, keep_cell hB8 j0, keep_cell hB8 j1, keep_cell hB8 j2, keep_cell hB8 j3, keep_cell hB8 j4⟩), ?_⟩
                    have hHeld := And.intro (keep_cell hB8 hck) (And.intro (keep_cell hB8 hcj) (And.intro (And.intro (keep_cell hB8 g0) (And.intro (keep_cell hB8 g1) (And.intro (keep_cell hB8 g2) (And.intro (keep_cell hB8 g3) (keep_cell hB8 g4))))) (And.intro (keep_cell hB8 j0) (And.intro (keep_cell hB8 j1) (And.intro (keep_cell hB8 j2) (And.intro (keep_cell hB8 j3) (keep_cell hB8 j4)))))))
                    clear hck hcj g0 g1 g2 g3 g4 j0 j1 j2 j3 j4
                    rcases bf with _ | _
                    · clear hqt
                      refine wpAnyT_take2 (i := 9) (v := ?_) rfl rfl (by kernel_rfl) (by kernel_rfl) (by kernel_rfl) (by kernel_rfl) (fun _ _ _ h => h) (Or.inl ⟨by rfl, ?_⟩) (by first | assumption | trivial) ?_
                      rotate_left
                      · (intro w hSw; (try dsimp only at hSw); go_simp) <;> (with_reducible rfl)
                      simp only [List.setIfInBounds_toArray, List.set_cons_zero, List.set_cons_succ]
                      refine wpAnyT_take2 (i := 10) (v := undef) rfl rfl (by kernel_rfl) (by kernel_rfl) (by kernel_rfl) (by kernel_rfl) (fun _ _ _ h => h) (Or.inr ⟨by rfl, rfl⟩) (by first | assumption | trivial) ?_
                      simp only [List.setIfInBounds_toArray, List.set_cons_zero, List.set_cons_succ]
                      refine wpAnyT_take2 (i := 11) (v := undef) rfl rfl (by kernel_rfl) (by kernel_rfl) (by kernel_rfl) (by kernel_rfl) (fun _ _ _ h => h) (Or.inr ⟨by rfl, rfl⟩) (by first | assumption | trivial) ?_
                      simp only [List.setIfInBounds_toArray, List.set_cons_zero, List.set_cons_succ]
                      refine wpAnyT_take2 (i := 12) (v := undef) rfl rfl (by kernel_rfl) (by kernel_rfl) (by kernel_rfl) (by kernel_rfl) (fun _ _ _ h => h) (Or.inr ⟨by rfl, rfl⟩) (by first | assumption | trivial) ?_
                      simp only [List.setIfInBounds_toArray, List.set_cons_zero, List.set_cons_succ]
                      refine wpAnyT_take2 (i := 13) (v := undef) rfl rfl (by kernel_rfl) (by kernel_rfl) (by kernel_rfl) (by kernel_rfl) (fun _ _ _ h => h) (Or.inr ⟨by rfl, rfl⟩) (by first | assumption | trivial) ?_
                      simp only [List.setIfInBounds_toArray, List.set_cons_zero, List.set_cons_succ]
                      refine wpAnyT_take2 (i := 14) (v := undef) rfl rfl (by kernel_rfl) (by kernel_rfl) (by kernel_rfl) (by kernel_rfl) (fun _ _ _ h => h) (Or.inr ⟨by rfl, rfl⟩) (by first | assumption | trivial) ?_
                      simp only [List.setIfInBounds_toArray, List.set_cons_zero, List.set_cons_succ]
                      refine wpAnyT_take2 (i := 15) (v := undef) rfl rfl (by kernel_rfl) (by kernel_rfl) (by kernel_rfl) (by kernel_rfl) (fun _ _ _ h => h) (Or.inr ⟨by rfl, rfl⟩) (by first | assumption | trivial) ?_
                      simp only [List.setIfInBounds_toArray, List.set_cons_zero, List.set_cons_succ]
                      refine wpAnyT_take2 (i := 16) (v := undef) rfl rfl (by kernel_rfl) (by kernel_rfl) (by kernel_rfl) (by kernel_rfl) (fun _ _ _ h => h) (Or.inr ⟨by rfl, rfl⟩) (by first | assumption | trivial) ?_
                      simp only [List.setIfInBounds_toArray, List.set_cons_zero, List.set_cons_succ]
                      refine wpAnyT_take2 (i := 17) (v := undef) rfl rfl (by kernel_rfl) (by kernel_rfl) (by kernel_rfl) (by kernel_rfl) (fun _ _ _ h => h) (Or.inr ⟨by rfl, rfl⟩) (by first | assumption | trivial) ?_
                      simp only [List.setIfInBounds_toArray, List.set_cons_zero, List.set_cons_succ]
                      refine wpAnyT_take2 (i := 18) (v := undef) rfl rfl (by kernel_rfl) (by kernel_rfl) (by kernel_rfl) (by kernel_rfl) (fun _ _ _ h => h) (Or.inr ⟨by rfl, rfl⟩) (by first | assumption | trivial) ?_
                      simp only [List.setIfInBounds_toArray, List.set_cons_zero, List.set_cons_succ]
                      refine wpAnyT_take2 (i := 19) (v := ?_) rfl rfl (by kernel_rfl) (by kernel_rfl) (by kernel_rfl) (by kernel_rfl) (fun _ _ _ h => h) (Or.inl ⟨by rfl, ?_⟩) (by first | assumption | trivial) ?_
                      rotate_left
                      · (intro w hSw; (try dsimp only at hSw); go_simp) <;> (with_reducible rfl)
                      simp only [List.setIfInBounds_toArray, List.set_cons_zero, List.set_cons_succ]
                      refine wpAnyT_done (by kernel_rfl) ?_ _
                      clear hHeld
                      go_wp2_with fail
                      go_roundw
                      case rel => exact ⟨j + 1, by omega, by go_num, hbj7⟩
                      case measure => simp [intOf]; omega
                    · have hqt2 := hqt rfl
                      have hqt3 : ¬ ((t : Int) + 1 ≤ (q : Int) + 1) := by omega
                      have hqt4 : decide ((t : Int) + 1 ≤ (q : Int) + 1) = false := by simp; omega
                      clear hqt
                      refine wpAnyT_take2 (i := 9) (v := ?_) rfl rfl (by kernel_rfl) (by kernel_rfl) (by kernel_rfl) (by kernel_rfl) (fun _ _ _ h => h) (Or.inl ⟨by rfl, ?_⟩) (by first | assumption | trivial) ?_
                      rotate_left
                      · (intro w hSw; (try dsimp only at hSw); go_simp) <;> (with_reducible rfl)
                      simp only [List.setIfInBounds_toArray, List.set_cons_zero, List.set_cons_succ]
                      refine wpAnyT_take2 (i := 10) (v := ?_) rfl rfl (by kernel_rfl) (by kernel_rfl) (by kernel_rfl) (by kernel_rfl) (fun _ _ _ h => h) (Or.inl ⟨by rfl, ?_⟩) (by first | assumption | trivial) ?_
                      rotate_left
                      · (intro w hSw; (try dsimp only at hSw); go_simp) <;> (with_reducible rfl)
                      simp only [List.setIfInBounds_toArray, List.set_cons_zero, List.set_cons_succ]
                      refine wpAnyT_take2 (i := 11) (v := ?_) rfl rfl (by kernel_rfl) (by kernel_rfl) (by kernel_rfl) (by kernel_rfl) (fun _ _ _ h => h) (Or.inl ⟨by rfl, ?_⟩) (by first | assumption | trivial) ?_
                      rotate_left
                      · (intro w hSw; (try dsimp only at hSw); go_simp) <;> (with_reducible rfl)
                      simp only [List.setIfInBounds_toArray, List.set_cons_zero, List.set_cons_succ]
                      refine wpAnyT_take2 (i := 12) (v := ?_) rfl rfl (by kernel_rfl) (by kernel_rfl) (by kernel_rfl) (by kernel_rfl) (fun _ _ _ h => h) (Or.inl ⟨by rfl, ?_⟩) (by first | assumption | trivial) ?_
                      rotate_left
                      · (intro w hSw; (try dsimp only at hSw); go_simp) <;> (with_reducible rfl)
                      simp only [List.setIfInBounds_toArray, List.set_cons_zero, List.set_cons_succ]
                      refine wpAnyT_take2 (i := 13) (v := ?_) rfl rfl (by kernel_rfl) (by kernel_rfl) (by kernel_rfl) (by kernel_rfl) (fun _ _ _ h => h) (Or.inl ⟨by rfl, ?_⟩) (by first | assumption | trivial) ?_
                      rotate_left
                      · (intro w hSw; (try dsimp only at hSw); go_simp) <;> (with_reducible rfl)
                      simp only [List.setIfInBounds_toArray, List.set_cons_zero, List.set_cons_succ]
                      refine wpAnyT_take2 (i := 14) (v := ?_) rfl rfl (by kernel_rfl) (by kernel_rfl) (by kernel_rfl) (by kernel_rfl) (fun _ _ _ h => h) (Or.inl ⟨by rfl, ?_⟩) (by first | assumption | trivial) ?_
                      rotate_left
                      · (intro w hSw; (try dsimp only at hSw); go_simp) <;> (with_reducible rfl)
                      simp only [List.setIfInBounds_toArray, List.set_cons_zero, List.set_cons_succ]
                      refine wpAnyT_take2 (i := 15) (v := ?_) rfl rfl (by kernel_rfl) (by kernel_rfl) (by kernel_rfl) (by kernel_rfl) (fun _ _ _ h => h) (Or.inl ⟨by rfl, ?_⟩) (by first | assumption | trivial) ?_
                      rotate_left
                      · (intro w hSw; (try dsimp only at hSw); go_simp) <;> (with_reducible rfl)
                      simp only [List.setIfInBounds_toArray, List.set_cons_zero, List.set_cons_succ]
                      refine wpAnyT_take2 (i := 16) (v := ?_) rfl rfl (by kernel_rfl) (by kernel_rfl) (by kernel_rfl) (by kernel_rfl) (fun _ _ _ h => h) (Or.inl ⟨by rfl, ?_⟩) (by first | assumption | trivial) ?_
                      rotate_left
                      · (intro w hSw; (try dsimp only at hSw); go_simp) <;> (with_reducible rfl)
                      simp only [List.setIfInBounds_toArray, List.set_cons_zero, List.set_cons_succ]
                      refine wpAnyT_take2 (i := 17) (v := ?_) rfl rfl (by kernel_rfl) (by kernel_rfl) (by kernel_rfl) (by kernel_rfl) (fun _ _ _ h => h) (Or.inl ⟨by rfl, ?_⟩) (by first | assumption | trivial) ?_
                      rotate_left
                      · (intro w hSw; (try dsimp only at hSw); go_simp) <;> (with_reducible rfl)
                      simp only [List.setIfInBounds_toArray, List.set_cons_zero, List.set_cons_succ]
                      refine wpAnyT_take2 (i := 18) (v := .bool false) rfl rfl (by kernel_rfl) (by kernel_rfl) (by kernel_rfl) (by kernel_rfl) (fun _ _ _ h => h) (Or.inl ⟨by rfl, ?_⟩) (by first | assumption | trivial) ?_
                      · (intro w hSw; (try dsimp only at hSw); go_simp) <;> (first | (with_reducible rfl) | assumption | (simp; done) | (simp [*]; done) | (simp; omega))
                      simp only [List.setIfInBounds_toArray, List.set_cons_zero, List.set_cons_succ]
                      refine wpAnyT_take2 (i := 19) (v := ?_) rfl rfl (by kernel_rfl) (by kernel_rfl) (by kernel_rfl) (by kernel_rfl) (fun _ _ _ h => h) (Or.inl ⟨by rfl, ?_⟩) (by first | assumption | trivial) ?_
                      rotate_left
                      · (intro w hSw; (try dsimp only at hSw); go_simp) <;> (with_reducible rfl)
                      simp only [List.setIfInBounds_toArray, List.set_cons_zero, List.set_cons_succ]
                      refine wpAnyT_done (by kernel_rfl) ?_ _
                      clear hHeld
                      go_wp2_with fail
                      go_roundw
                      case rel => exact ⟨j + 1, by omega, by go_num, hbj7⟩
                      case measure => simp [intOf]; omega
                  · go_wp2_with fail
                    go_roundw
                    case rel => exact ⟨k + 1, by omega, by go_num, hbj⟩
                    case measure => simp [intOf]; omega
              · have hzo : wo.heap.size ≤ wr.heap.size := hbo.size
                have HO10 := Lib.hid (HO9.out.below' hbo (Nat.le_refl _))
                have HB10 := Lib.hid (HB9.out.trans (hbo.mono HB9.out.size))
                clear HTN HBK HO9
                go_wp2_with fail
                obtain ⟨wo2, hwo2⟩ : ∃ x, x = wr := ⟨_, rfl⟩
                subst hwo2
                clear hbo hzo HB9 hkl
                go_loopw [14] (fun i wr => ∃ (k : Nat), 1 ≤ k ∧ k ≤ l.length + 1 ∧ i = .int .i64 k ∧ Below wo2.heap.size wo2 wr) (fun i _ => l.length - (intOf i).toNat)
                case atStart => exact ⟨1, by omega, by omega, rfl, Below.refl _ _⟩
                case round =>
                  obtain ⟨i, hi1, hi, rfl, hbo⟩ := hrel
                  have hB11 : Below w.heap.size w wr := HB10.out.trans (hbo.mono HB10.out.size)
                  by_cases hil : i < l.length
                  · obtain ⟨t, rfl⟩ : ∃ t, i = t + 1 := ⟨i - 1, by omega⟩
                    have hto : t + 1 < o.length := by have := HOL2.out; omega
                    have hto' : t < o.length := by omega
                    have hor1 := HOR2.out t hto'
                    have hor2 := HOR2.out (t + 1) hto
                    have hnx := HOK.out.next hto
                    obtain ⟨bo, oo, hA1, hbo1, hco⟩ := HO10.out.at1 (show t < (natI o).length by rw [natI_len]; exact hto')
                    obtain ⟨bo2, oo2, hA2, hbo2, hco2⟩ := HO10.out.at1 (show t + 1 < (natI o).length by rw [natI_len]; exact hto)
                    have eo : (natI o)[t]'(by rw [natI_len]; exact hto') = ((o[t] : Nat) : Int) := by unfold natI; simp
                    have eo2 : (natI o)[t + 1]'(by rw [natI_len]; exact hto) = ((o[t + 1] : Nat) : Int) := by unfold natI; simp
                    have co := (hco.keep (hbo.block bo hbo1)).c1
                    have co2 := (hco2.keep (hbo.block bo2 hbo2)).c1
                    simp only [Nat.mul_one] at co co2
                    rw [eo] at co
                    rw [eo2] at co2
                    simp only at hA1 hA2
                    subst hA1
                    simp only [Option.some.injEq, Addr.mk.injEq, and_true] at hA2
                    obtain ⟨rfl, rfl⟩ := hA2
                    clear hco hco2 eo eo2
                    generalize o[t] = o1 at *
                    generalize o[t + 1] = o2 at *
                    obtain ⟨b, ox, rfl, hb, hcl⟩ := HR.out.1.at1 hor1
                    obtain ⟨g0, g1, g2, g3, g4⟩ := Cells.c5 (hcl.keep (hB11.block b hb))
                    obtain ⟨b2, ox2, hA3, hb2, hcl2⟩ := HR.out.1.at1 hor2
                    simp only [Option.some.injEq, Addr.mk.injEq, and_true] at hA3
                    obtain ⟨rfl, rfl⟩ := hA3
                    obtain ⟨j0, j1, j2, j3, j4⟩ := Cells.c5 (hcl2.keep (hB11.block b hb))
                    have hxa := (HR.out.2 _ (List.getElem_mem hor1)).below' hB11 (Nat.le_refl _)
                    have hya := (HR.out.2 _ (List.getElem_mem hor2)).below' hB11 (Nat.le_refl _)
                    rw [at!_map2 hor1, at!_map2 hor2] at hnx
                    clear hcl hcl2
                    generalize l[o1] = x at *
                    generalize l[o2] = y at *
                    obtain ⟨xd, xq, ⟨xA, xc, xl⟩, xt, xx⟩ := x
                    obtain ⟨yd, yq, ⟨yA, yc, yl⟩, yt, yx⟩ := y
                    have HXA := Lib.hid hxa
                    have HYA := Lib.hid hya
                    have HNX := Lib.hid hnx
                    have hw1 : IntKind.i64.wrap (((t + 1 : Nat) : Int) - 1) = (t : Int) := by rw [IntKind.wrap_i64]; omega
                    have hw3 : ((t + 1 : Nat) : Int) < (l.length : Int) := by omega
                    have ho1' : (o1 : Int) < (l.length : Int) := by omega
                    have ho2' : (o2 : Int) < (l.length : Int) := by omega
                    have htl' : (t : Int) < (l.length : Int) := by omega
                    clear hxa hya hnx
                    generalize hti : t + 1 = i at *
                    have HTI := Lib.hid hti
                    clear hti hto hto' hor1 hor2
                    have q5 := kal (.cells #[.int .i64 xd, .int .i64 xq, .slice xA xl.length xc, .int .i64 xt, .string xx] 61) co2
                    have q0 := kal (.cells #[.int .i64 xd, .int .i64 xq, .slice xA xl.length xc, .int .i64 xt, .string xx] 61) j0
                    have q1 := kal (.cells #[.int .i64 xd, .int .i64 xq, .slice xA xl.length xc, .int .i64 xt, .string xx] 61) j1
                    have q2 := kal (.cells #[.int .i64 xd, .int .i64 xq, .slice xA xl.length xc, .int .i64 xt, .string xx] 61) j2
                    have q3 := kal (.cells #[.int .i64 xd, .int .i64 xq, .slice xA xl.length xc, .int .i64 xt, .string xx] 61) j3
                    have q4 := kal (.cells #[.int .i64 xd, .int .i64 xq, .slice xA xl.length xc, .int .i64 xt, .string xx] 61) j4
                    have hzo2 : wo2.heap.size ≤ wr.heap.size := hbo.size
                    have hfn : firstN (Note.d ⟨xd, xq, ⟨xA, xc, xl⟩, xt, xx⟩) (Note.d ⟨yd, yq, ⟨yA, yc, yl⟩, yt, yx⟩) = true → xt < yt ∨ (xt = yt ∧ (xd < yd ∨ (xd = yd ∧ xq < yq))) := by
                      intro h
                      rw [firstN_iff] at h
                      unfold LtN at h
                      rw [lessN_iff] at h
                      exact h
                    have HFN := Lib.hid hfn
                    clear hfn
                    by_cases h1 : xt < yt
                    · skip
                      go_wp2_with fail
                      go_roundw
                      case rel => exact ⟨i + 1, by omega, by omega, by go_num, (by repeat (first | (with_reducible exact hbo) | (with_reducible exact Below.refl _ _) | ((with_reducible refine below_setr ?_ ?_); focus (first | (simp; done) | (simp; omega) | omega)) | ((with_reducible refine below_allocr ?_ ?_); focus (first | (simp; done) | (simp; omega) | omega)) | (with_reducible refine Below.drew ?_) | (with_reducible refine below_drewN ?_ _) | ((with_reducible apply below_via); focus (with_reducible assumption))))⟩
                      case measure => simp [intOf]; omega
                    · by_cases h2 : xt = yt
                      · have e1 : (xt == yt) = true := by simp [h2]
                        have H2 := Lib.hid h2
                        clear h2
                        by_cases h3 : xd < yd
                        · skip
                          go_wp2_with fail
                          go_roundw
                          case rel => exact ⟨i + 1, by omega, by omega, by go_num, (by repeat (first | (with_reducible exact hbo) | (with_reducible exact Below.refl _ _) | ((with_reducible refine below_setr ?_ ?_); focus (first | (simp; done) | (simp; omega) | omega)) | ((with_reducible refine below_allocr ?_ ?_); focus (first | (simp; done) | (simp; omega) | omega)) | (with_reducible refine Below.drew ?_) | (with_reducible refine below_drewN ?_ _) | ((with_reducible apply below_via); focus (with_reducible assumption))))⟩
                          case measure => simp [intOf]; omega
                        · by_cases h4 : xd = yd
                          · have e2 : (xd == yd) = true := by simp [h4]
                            have H4 := Lib.hid h4
                            clear h4
                            by_cases h5 : xq < yq
                            · skip
                              go_wp2_with fail
                              go_roundw
                              case rel => exact ⟨i + 1, by omega, by omega, by go_num, (by repeat (first | (with_reducible exact hbo) | (with_reducible exact Below.refl _ _) | ((with_reducible refine below_setr ?_ ?_); focus (first | (simp; done) | (simp; omega) | omega)) | ((with_reducible refine below_allocr ?_ ?_); focus (first | (simp; done) | (simp; omega) | omega)) | (with_reducible refine Below.drew ?_) | (with_reducible refine below_drewN ?_ _) | ((with_reducible apply below_via); focus (with_reducible assumption))))⟩
                              case measure => simp [intOf]; omega
                            · have hbf := bef_of HNX.out (fun h => by have := HFN.out h; omega)
                              have HBF := Lib.hid hbf
                              clear hbf
                              go_wp2_with fail
                              refine (mbefore ⟨xd, xq, ⟨xA, xc, xl⟩, xt, xx⟩ ⟨yd, yq, ⟨yA, yc, yl⟩, yt, yx⟩ _ (HXA.out.below' (by repeat (first | (with_reducible exact Below.refl _ _) | ((with_reducible refine below_setr ?_ ?_); focus (first | (simp; done) | (simp; omega) | omega)) | ((with_reducible refine below_allocr ?_ ?_); focus (first | (simp; done) | (simp; omega) | omega)) | (with_reducible refine Below.drew ?_) | (with_reducible refine below_drewN ?_ _))) (Nat.le_refl _)) (HYA.out.below' (by repeat (first | (with_reducible exact Below.refl _ _) | ((with_reducible refine below_setr ?_ ?_); focus (first | (simp; done) | (simp; omega) | omega)) | ((with_reducible refine below_allocr ?_ ?_); focus (first | (simp; done) | (simp; omega) | omega)) | (with_reducible refine Below.drew ?_) | (with_reducible refine below_drewN ?_ _))) (Nat.le_refl _))).mono ?_
                              rintro e w8 ⟨rfl, hb8⟩
                              rw [HBF.out]
                              have hB8 : Below wr.heap.size wr w8 := (by repeat (first | (with_reducible exact Below.refl _ _) | ((with_reducible refine below_setr ?_ ?_); focus (first | (simp; done) | (simp; omega) | omega)) | ((with_reducible refine below_allocr ?_ ?_); focus (first | (simp; done) | (simp; omega) | omega)) | (with_reducible refine Below.drew ?_) | (with_reducible refine below_drewN ?_ _) | ((with_reducible apply below_via); focus (with_reducible assumption))))
                              have hbo8 : Below wo2.heap.size wo2 w8 := hbo.trans (hB8.mono hbo.size)
                              clear hb8
                              go_wp2_with fail
                              go_roundw
                              case rel => exact ⟨i + 1, by omega, by omega, by go_num, hbo8⟩
                              case measure => simp [intOf]; omega
                          · have e2 : (xd == yd) = false := by simp [h4]
                            have hbf := bef_of HNX.out (fun h => by have := HFN.out h; omega)
                            clear h4
                            have HBF := Lib.hid hbf
                            clear hbf
                            go_wp2_with fail
                            refine (mbefore ⟨xd, xq, ⟨xA, xc, xl⟩, xt, xx⟩ ⟨yd, yq, ⟨yA, yc, yl⟩, yt, yx⟩ _ (HXA.out.below' (by repeat (first | (with_reducible exact Below.refl _ _) | ((with_reducible refine below_setr ?_ ?_); focus (first | (simp; done) | (simp; omega) | omega)) | ((with_reducible refine below_allocr ?_ ?_); focus (first | (simp; done) | (simp; omega) | omega)) | (with_reducible refine Below.drew ?_) | (with_reducible refine below_drewN ?_ _))) (Nat.le_refl _)) (HYA.out.below' (by repeat (first | (with_reducible exact Below.refl _ _) | ((with_reducible refine below_setr ?_ ?_); focus (first | (simp; done) | (simp; omega) | omega)) | ((with_reducible refine below_allocr ?_ ?_); focus (first | (simp; done) | (simp; omega) | omega)) | (with_reducible refine Below.drew ?_) | (with_reducible refine below_drewN ?_ _))) (Nat.le_refl _))).mono ?_
                            rintro e w8 ⟨rfl, hb8⟩
                            rw [HBF.out]
                            have hB8 : Below wr.heap.size wr w8 := (by repeat (first | (with_reducible exact Below.refl _ _) | ((with_reducible refine below_setr ?_ ?_); focus (first | (simp; done) | (simp; omega) | omega)) | ((with_reducible refine below_allocr ?_ ?_); focus (first | (simp; done) | (simp; omega) | omega)) | (with_reducible refine Below.drew ?_) | (with_reducible refine below_drewN ?_ _) | ((with_reducible apply below_via); focus (with_reducible assumption))))
                            have hbo8 : Below wo2.heap.size wo2 w8 := hbo.trans (hB8.mono hbo.size)
                            clear hb8
                            go_wp2_with fail
                            go_roundw
                            case rel => exact ⟨i + 1, by omega, by omega, by go_num, hbo8⟩
                            case measure => simp [intOf]; omega
                      · have e1 : (xt == yt) = false := by simp [h2]
                        have hbf := bef_of HNX.out (fun h => by have := HFN.out h; omega)
                        clear h2
                        have HBF := Lib.hid hbf
                        clear hbf
                        go_wp2_with fail
                        refine (mbefore ⟨xd, xq, ⟨xA, xc, xl⟩, xt, xx⟩ ⟨yd, yq, ⟨yA, yc, yl⟩, yt, yx⟩ _ (HXA.out.below' (by repeat (first | (with_reducible exact Below.refl _ _) | ((with_reducible refine below_setr ?_ ?_); focus (first | (simp; done) | (simp; omega) | omega)) | ((with_reducible refine below_allocr ?_ ?_); focus (first | (simp; done) | (simp; omega) | omega)) | (with_reducible refine Below.drew ?_) | (with_reducible refine below_drewN ?_ _))) (Nat.le_refl _)) (HYA.out.below' (by repeat (first | (with_reducible exact Below.refl _ _) | ((with_reducible refine below_setr ?_ ?_); focus (first | (simp; done) | (simp; omega) | omega)) | ((with_reducible refine below_allocr ?_ ?_); focus (first | (simp; done) | (simp; omega) | omega)) | (with_reducible refine Below.drew ?_) | (with_reducible refine below_drewN ?_ _))) (Nat.le_refl _))).mono ?_
                        rintro e w8 ⟨rfl, hb8⟩
                        rw [HBF.out]
                        have hB8 : Below wr.heap.size wr w8 := (by repeat (first | (with_reducible exact Below.refl _ _) | ((with_reducible refine below_setr ?_ ?_); focus (first | (simp; done) | (simp; omega) | omega)) | ((with_reducible refine below_allocr ?_ ?_); focus (first | (simp; done) | (simp; omega) | omega)) | (with_reducible refine Below.drew ?_) | (with_reducible refine below_drewN ?_ _) | ((with_reducible apply below_via); focus (with_reducible assumption))))
                        have hbo8 : Below wo2.heap.size wo2 w8 := hbo.trans (hB8.mono hbo.size)
                        clear hb8
                        go_wp2_with fail
                        go_roundw
                        case rel => exact ⟨i + 1, by omega, by omega, by go_num, hbo8⟩
                        case measure => simp [intOf]; omega
                  · go_wp2_with fail
                    go_ret
                    exact ⟨by simp [Act.eval, go_sem], (by repeat (first | (with_reducible exact hB11) | (with_reducible exact Below.refl _ _) | ((with_reducible refine below_setr ?_ ?_); focus (first | (simp; done) | (simp; omega) | omega)) | ((with_reducible refine below_allocr ?_ ?_); focus (first | (simp; done) | (simp; omega) | omega)) | (with_reducible refine Below.drew ?_) | (with_reducible refine below_drewN ?_ _) | ((with_reducible apply below_via); focus (with_reducible assumption))))⟩
      · have hno := ordN_no hE
        have hol0 : ol = [] := by rw [hoE, hno]; rfl
        subst hol0
        generalize (ordN (l.map Note.d)).2 = E at *
        have e1 : (E != 0) = true := by simp [hE]
        clear hoE hno hord hE hpE HOL
        go_wp2_with fail
        go_ret
        exact ⟨by simp [Act.eval, go_sem], (by repeat (first | (with_reducible exact hB5) | (with_reducible exact Below.refl _ _) | ((with_reducible refine below_setr ?_ ?_); focus (first | (simp; done) | (simp; omega) | omega)) | ((with_reducible refine below_allocr ?_ ?_); focus (first | (simp; done) | (simp; omega) | omega)) | (with_reducible refine Below.drew ?_) | (with_reducible refine below_drewN ?_ _) | ((with_reducible apply below_via); focus (with_reducible assumption))))⟩
end Go.Proofs.Ythnblhbdfpmolaa
