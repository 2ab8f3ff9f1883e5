/- Walk: eval.Value. -/
import Derived.Test.YtcgocdhhneckhaaGreatFnammxbg
namespace Go.Proofs.YtcgocdhhneckhaaGreat
open Go.RowKit
def Frc.zero : Frc := ⟨⟨0, ⟨none, 0, []⟩⟩, ⟨0, ⟨none, 0, []⟩⟩⟩
/-- A value, or nothing and an errno. -/
def ValP (w w' : World) (r : FrR) (e : Ending) : Prop := ∃ f : Frc, e = .returned (.tuple #[f.v, .int .i64 r.e]) ∧ (r.e = 0 → RG (· < w'.heap.size) w' f r.p r.q) ∧ (r.e ≠ 0 → f = Frc.zero) ∧ Below w.heap.size w w'
theorem ValP.cast {w w' : World} {r r' : FrR} {e : Ending} (h : r = r') (x : ValP w w' r' e) : ValP w w' r e := by rw [h]; exact x
theorem evalF_arg {L : List LT} {e : PT} {T M : List FT} (h : ¬ (rexp e = true ∧ (L.length : Int) ≤ 20 ∧ L.all (fun x => rexp x.b) = true ∧ factsB T = true ∧ factsB M = true)) : evalF L e T M = FrR.bad 1 := by unfold evalF; rw [if_neg h]
theorem evalF_ok {L : List LT} {e : PT} {T M : List FT} (h : rexp e = true ∧ (L.length : Int) ≤ 20 ∧ L.all (fun x => rexp x.b) = true ∧ factsB T = true ∧ factsB M = true) : evalF L e T M = evN T M L L.length 12 e := by unfold evalF; rw [if_pos h]
theorem facts_i64 {l : List FT} (h : factsB l = true) : ∀ x, x ∈ l → -9223372036854775808 ≤ x.v ∧ x.v ≤ 9223372036854775807 := by
  intro x hx
  unfold factsB at h
  simp only [Bool.and_eq_true, List.all_eq_true, decide_eq_true_eq] at h
  have := h.2 x hx
  omega
theorem RG.set1 {F : Nat → Prop} {w : World} {f : Frc} {p q : Int} {a i : Nat} {u : Value} (h : RG F w f p q) (h1 : ∀ b, F b → b ≠ a) : RG F (w.setCell ⟨a, i, none⟩ u) f p q := ⟨h.P.far h1 u, h.Q.far h1 u, h.dp, h.dq, h.ok⟩
structure VB (w w1 : World) (cs : Array Value) (e : PT) : Prop where
  bel : Below w.heap.size w w1
  bB : Blk w1 w.heap.size 27 cs
  bE : Blk w1 (w.heap.size + 1) 25 e.enc.toArray
  bR : Blk w1 (w.heap.size + 1 + 1) 71 #[.int .i64 0, .slice none 0 0, .int .i64 0, .slice none 0 0]
  bQ : Blk w1 (w.heap.size + 1 + 1 + 1) 30 #[.int .i64 0]
theorem VB.later {w w1 w2 : World} {cs : Array Value} {e : PT} (h : VB w w1 cs e) (hb : Below w1.heap.size w1 w2) : VB w w2 cs e :=
  ⟨h.bel.trans (hb.mono h.bel.size), h.bB.later hb, h.bE.later hb, h.bR.later hb, h.bQ.later hb⟩
theorem vb_make (w : World) (cs : Array Value) (e : PT) : VB w ((((w.alloc (.cells cs 27)).alloc (.cells e.enc.toArray 25)).alloc (.cells #[.int .i64 0, .slice none 0 0, .int .i64 0, .slice none 0 0] 71)).alloc (.cells #[.int .i64 0] 30)) cs e :=
  ⟨qbl, (((Blk.new _ _ _).alloc _).alloc _).alloc _, ((Blk.new' (by simp)).alloc _).alloc _, (Blk.new' (by simp)).alloc _, Blk.new' (by simp)⟩
set_option maxRecDepth 100000 in
set_option maxHeartbeats 3200000 in
theorem ev_Value (b : Byl) (e : PT) (T M : Sl FT) (w : World) (hb : Byl.At (· < w.heap.size) w b) (he : PT.At (· < w.heap.size) w e) (hT : FactsAt (· < w.heap.size) w T) (hM : FactsAt (· < w.heap.size) w M) :
    Calls Tryz.prog 45 #[b.v, e.v, .slice T.A T.l.length T.c, .slice M.A M.l.length M.c] w fun r w' => ValP w w' (evalF b.lets.l e T.l M.l) r := by
  have hmf : ∀ (fn : Fn) (first cap : Array Value) (w : World), (Instr.makeFunc fn first cap).run Tryz.prog w = .ok (.func fn first cap) w := fun _ _ _ _ => rfl
  have HL := Lib.hid hb.lets
  have HE := Lib.hid he
  have HT := Lib.hid hT
  have HM := Lib.hid hM
  have hln := hb.lets.rd.len
  clear hb he hT hM
  obtain ⟨V, hV⟩ : ∃ V, evalF b.lets.l e T.l M.l = V := ⟨_, rfl⟩
  have HV := Lib.hid hV
  rw [hV]
  clear hV
  obtain ⟨nm, ⟨LA, Lc, L⟩, ⟨o, n, u, s, A, c, l⟩, ⟨oB, nB, uB, sB, AB, cB, lB⟩, ⟨oC, nC, uC, sC, AC, cC, lC⟩, ⟨oD, nD, uD, sD, AD, cD, lD⟩, q, sh, ch⟩ := b
  obtain ⟨xo, xm, xu, xs, xA, xc, xl⟩ := e
  simp only at HL HV hln
  simp only [Byl.v, PT.v]
  go_enter_defers Tryz.func45, Tryz.ntmps45
  go_wp2_with fail
  have HB1 := Lib.hid (vb_make w #[.string nm, .slice LA L.length Lc, .int .i64 o, .int .i64 n, .int .i64 u, .string s, .slice A l.length c, .int .i64 oB, .int .i64 nB, .int .i64 uB, .string sB, .slice AB lB.length cB, .int .i64 oC, .int .i64 nC, .int .i64 uC, .string sC, .slice AC lC.length cC, .int .i64 oD, .int .i64 nD, .int .i64 uD, .string sD, .slice AD lD.length cD, .int .i64 q, .int .i64 sh, .int .i64 ch] ⟨xo, xm, xu, xs, xA, xc, xl⟩)
  simp only [PT.enc] at HB1
  generalize ((((w.alloc (.cells #[.string nm, .slice LA L.length Lc, .int .i64 o, .int .i64 n, .int .i64 u, .string s, .slice A l.length c, .int .i64 oB, .int .i64 nB, .int .i64 uB, .string sB, .slice AB lB.length cB, .int .i64 oC, .int .i64 nC, .int .i64 uC, .string sC, .slice AC lC.length cC, .int .i64 oD, .int .i64 nD, .int .i64 uD, .string sD, .slice AD lD.length cD, .int .i64 q, .int .i64 sh, .int .i64 ch] 27)).alloc (.cells #[.int .i64 xo, .int .i64 xm, .int .i64 xu, .string xs, .slice xA xl.length xc] 25)).alloc (.cells #[.int .i64 0, .slice none 0 0, .int .i64 0, .slice none 0 0] 71)).alloc (.cells #[.int .i64 0] 30)) = w1 at *
  refine (syn_rexp ⟨xo, xm, xu, xs, xA, xc, xl⟩ _ (HE.out.later HB1.out.bel)).mono ?_
  rintro e w2 ⟨rfl, hb2⟩
  have HB2 := Lib.hid (HB1.out.later hb2)
  clear hb2
  obtain ⟨t1, ht1⟩ : ∃ t, rexp ⟨xo, xm, xu, xs, xA, xc, xl⟩ = t := ⟨_, rfl⟩
  rw [ht1]
  obtain ⟨r0, r1, r2, r3, rf, rz⟩ := HB2.out.bR.b4
  obtain ⟨q0, qf, qz⟩ := HB2.out.bQ.b1
  have y1 := HB2.out.bB.cell 1
  have yz := HB2.out.bB.lt
  rcases t1
  · skip
    have HFF := Lib.hid ((evalF_arg (e := ⟨xo, xm, xu, xs, xA, xc, xl⟩) (L := L) (T := T.l) (M := M.l) (fun h => by simp_all)).symm.trans HV.out)
    go_wp2_with fail
    have hbb : Below w.heap.size w (((((w2.setCell ⟨w.heap.size + 1 + 1, 0, none⟩ (.int .i64 0)).setCell ⟨w.heap.size + 1 + 1, 1, none⟩ (.slice none 0 0)).setCell ⟨w.heap.size + 1 + 1, 2, none⟩ (.int .i64 0)).setCell ⟨w.heap.size + 1 + 1, 3, none⟩ (.slice none 0 0)).setCell ⟨w.heap.size + 1 + 1 + 1, 0, none⟩ (.int .i64 1)) := (below_st4 HB2.out.bel).setCell (by simp only; omega) _
    show ∃ v, _ ∧ _
    refine ⟨.tuple #[.agg #[.int .i64 0, .slice none 0 0, .int .i64 0, .slice none 0 0], .int .i64 1], ?_, (ValP.cast HFF.out.symm ⟨Frc.zero, rfl, fun h => absurd h (by decide), fun _ => rfl, hbb⟩)⟩
    simp [results, Tryz.results45, go_sem, r0, r1, r2, r3, rz, q0, qz]
  · have HT1 := Lib.hid ht1
    clear ht1
    by_cases h20 : (L.length : Int) ≤ 20
    · have HLL := Lib.hid (HL.out.later HB2.out.bel)
      go_wp2_with fail
      refine (hasL_va ⟨LA, Lc, L⟩ (fun x => !rexp x.b) 0 w2 HLL.out.rd (fun W x hx hW => un_bad_va x W ((HLL.out.later hW).all x hx))).mono ?_
      rintro e w3 ⟨rfl, hb3⟩
      have HB3 := Lib.hid (HB2.out.later hb3)
      clear hb3 HLL
      clear r0 r1 r2 r3 rf rz q0 qf qz y1 yz
      obtain ⟨r0, r1, r2, r3, rf, rz⟩ := HB3.out.bR.b4
      obtain ⟨q0, qf, qz⟩ := HB3.out.bQ.b1
      have y1 := HB3.out.bB.cell 1
      have yz := HB3.out.bB.lt
      obtain ⟨t2, ht2⟩ : ∃ t, L.any (fun x => !rexp x.b) = t := ⟨_, rfl⟩
      rw [ht2]
      have HAL := Lib.hid (any_not (fun x : LT => rexp x.b) L)
      rw [ht2] at HAL
      clear ht2
      rcases t2
      · have HT2 : Hid (L.all (fun x => rexp x.b) = true) := Lib.hid (by rw [← HAL.out]; rfl)
        go_wp2_with fail
        refine (ev_right T _ (HT.out.later HB3.out.bel)).mono ?_
        rintro e w4 ⟨rfl, hb4⟩
        have HB4 := Lib.hid (HB3.out.later hb4)
        clear hb4 HAL
        clear r0 r1 r2 r3 rf rz q0 qf qz y1 yz
        obtain ⟨r0, r1, r2, r3, rf, rz⟩ := HB4.out.bR.b4
        obtain ⟨q0, qf, qz⟩ := HB4.out.bQ.b1
        have y1 := HB4.out.bB.cell 1
        have yz := HB4.out.bB.lt
        obtain ⟨t3, ht3⟩ : ∃ t, factsB T.l = t := ⟨_, rfl⟩
        rw [ht3]
        have HT3 := Lib.hid ht3
        clear ht3
        rcases t3
        · have hno := HT3.out
          have HFF := Lib.hid ((evalF_arg (e := ⟨xo, xm, xu, xs, xA, xc, xl⟩) (L := L) (T := T.l) (M := M.l) (fun h => by simp_all)).symm.trans HV.out)
          go_wp2_with fail
          have hbb : Below w.heap.size w (((((w4.setCell ⟨w.heap.size + 1 + 1, 0, none⟩ (.int .i64 0)).setCell ⟨w.heap.size + 1 + 1, 1, none⟩ (.slice none 0 0)).setCell ⟨w.heap.size + 1 + 1, 2, none⟩ (.int .i64 0)).setCell ⟨w.heap.size + 1 + 1, 3, none⟩ (.slice none 0 0)).setCell ⟨w.heap.size + 1 + 1 + 1, 0, none⟩ (.int .i64 1)) := (below_st4 HB4.out.bel).setCell (by simp only; omega) _
          show ∃ v, _ ∧ _
          refine ⟨.tuple #[.agg #[.int .i64 0, .slice none 0 0, .int .i64 0, .slice none 0 0], .int .i64 1], ?_, (ValP.cast HFF.out.symm ⟨Frc.zero, rfl, fun h => absurd h (by decide), fun _ => rfl, hbb⟩)⟩
          simp [results, Tryz.results45, go_sem, r0, r1, r2, r3, rz, q0, qz]
        · go_wp2_with fail
          refine (ev_right M _ (HM.out.later HB4.out.bel)).mono ?_
          rintro e w5 ⟨rfl, hb5⟩
          have HB5 := Lib.hid (HB4.out.later hb5)
          clear hb5
          clear r0 r1 r2 r3 rf rz q0 qf qz y1 yz
          obtain ⟨r0, r1, r2, r3, rf, rz⟩ := HB5.out.bR.b4
          obtain ⟨q0, qf, qz⟩ := HB5.out.bQ.b1
          have y1 := HB5.out.bB.cell 1
          have yz := HB5.out.bB.lt
          obtain ⟨t4, ht4⟩ : ∃ t, factsB M.l = t := ⟨_, rfl⟩
          rw [ht4]
          have HT4 := Lib.hid ht4
          clear ht4
          rcases t4
          · have hno := HT4.out
            have HFF := Lib.hid ((evalF_arg (e := ⟨xo, xm, xu, xs, xA, xc, xl⟩) (L := L) (T := T.l) (M := M.l) (fun h => by simp_all)).symm.trans HV.out)
            go_wp2_with fail
            have hbb : Below w.heap.size w (((((w5.setCell ⟨w.heap.size + 1 + 1, 0, none⟩ (.int .i64 0)).setCell ⟨w.heap.size + 1 + 1, 1, none⟩ (.slice none 0 0)).setCell ⟨w.heap.size + 1 + 1, 2, none⟩ (.int .i64 0)).setCell ⟨w.heap.size + 1 + 1, 3, none⟩ (.slice none 0 0)).setCell ⟨w.heap.size + 1 + 1 + 1, 0, none⟩ (.int .i64 1)) := (below_st4 HB5.out.bel).setCell (by simp only; omega) _
            show ∃ v, _ ∧ _
            refine ⟨.tuple #[.agg #[.int .i64 0, .slice none 0 0, .int .i64 0, .slice none 0 0], .int .i64 1], ?_, (ValP.cast HFF.out.symm ⟨Frc.zero, rfl, fun h => absurd h (by decide), fun _ => rfl, hbb⟩)⟩
            simp [results, Tryz.results45, go_sem, r0, r1, r2, r3, rz, q0, qz]
          · have hmm := @run_makeMap Tryz.prog
            obtain ⟨x0, x1, x2, x3, x4, xf, xz⟩ := HB5.out.bE.b5
            go_wp2_with fail
            obtain ⟨X, hX⟩ : ∃ X : Nat → Prop, X = fun b => b = w.heap.size + 1 + 1 ∨ b = w.heap.size + 1 + 1 + 1 ∨ b = w5.heap.size := ⟨_, rfl⟩
            have hsz : w.heap.size + 1 + 1 + 1 < w5.heap.size := qz
            have hgx : ∀ b, X b → w.heap.size ≤ b := fun b hb => by rw [hX] at hb; omega
            have hlx : ∀ b, X b → b < w5.heap.size + 1 + 1 := fun b hb => by rw [hX] at hb; omega
            have hx8 : X (w.heap.size + 1 + 1) := by rw [hX]; exact .inl rfl
            have hx9 : X (w.heap.size + 1 + 1 + 1) := by rw [hX]; exact .inr (.inl rfl)
            have hxm : X w5.heap.size := by rw [hX]; exact .inr (.inr rfl)
            have HB6 : Hid (VB w ((w5.alloc (.map #[] 0)).alloc (.cells #[.slice LA L.length Lc, .map (some w5.heap.size), .slice T.A T.l.length T.c, .slice M.A M.l.length M.c] 111)) #[.string nm, .slice LA L.length Lc, .int .i64 o, .int .i64 n, .int .i64 u, .string s, .slice A l.length c, .int .i64 oB, .int .i64 nB, .int .i64 uB, .string sB, .slice AB lB.length cB, .int .i64 oC, .int .i64 nC, .int .i64 uC, .string sC, .slice AC lC.length cC, .int .i64 oD, .int .i64 nD, .int .i64 uD, .string sD, .slice AD lD.length cD, .int .i64 q, .int .i64 sh, .int .i64 ch] ⟨xo, xm, xu, xs, xA, xc, xl⟩) := Lib.hid (HB5.out.later qbl)
            have HST : Hid (FnSt (w5.heap.size + 1) w5.heap.size ⟨LA, Lc, L⟩ T M X [] ((w5.alloc (.map #[] 0)).alloc (.cells #[.slice LA L.length Lc, .map (some w5.heap.size), .slice T.A T.l.length T.c, .slice M.A M.l.length M.c] 111))) := Lib.hid
              ⟨Blk.new' (by simp), (MapI.made w5).alloc _, HL.out.keep (fun b hb => HB6.out.bel.block b hb) (fun b hb => ⟨by simp; omega, fun hx => by have := hgx b hx; omega⟩), HT.out.keep (fun b hb => HB6.out.bel.block b hb) (fun b hb => ⟨by simp; omega, fun hx => by have := hgx b hx; omega⟩), HM.out.keep (fun b hb => HB6.out.bel.block b hb) (fun b hb => ⟨by simp; omega, fun hx => by have := hgx b hx; omega⟩), (fun p hp => by cases hp), (fun p q hp => by cases hp), by omega, hxm, (fun b hb => by have := hlx b hb; simpa using this)⟩
            have HEX : Hid (PT.At (Nm X ((w5.alloc (.map #[] 0)).alloc (.cells #[.slice LA L.length Lc, .map (some w5.heap.size), .slice T.A T.l.length T.c, .slice M.A M.l.length M.c] 111))) ((w5.alloc (.map #[] 0)).alloc (.cells #[.slice LA L.length Lc, .map (some w5.heap.size), .slice T.A T.l.length T.c, .slice M.A M.l.length M.c] 111)) ⟨xo, xm, xu, xs, xA, xc, xl⟩) := Lib.hid (HE.out.keep (fun b hb => HB6.out.bel.block b hb) (fun b hb => ⟨by simp; omega, fun hx => by have := hgx b hx; omega⟩))
            have hcall := ev_value (w5.heap.size + 1) w5.heap.size ⟨LA, Lc, L⟩ T M (fun x hx => by have := HT2.out; rw [List.all_eq_true] at this; exact this x hx) (facts_i64 HT3.out) (facts_i64 HT4.out) L.length (Nat.le_refl _) 12 ⟨xo, xm, xu, xs, xA, xc, xl⟩ X [] _ HT1.out HEX.out HST.out
            have hvv := HV.out
            rw [evalF_ok ⟨HT1.out, h20, HT2.out, HT3.out, HT4.out⟩] at hvv
            rw [hvv] at hcall
            clear r0 r1 r2 r3 rf rz q0 qf qz y1 yz
            clear hvv HST HEX x0 x1 x2 x3 x4 xf xz HT1 HT2 HT3 HT4 HB5
            generalize (w5.alloc (.map #[] 0)).alloc (.cells #[.slice LA L.length Lc, .map (some w5.heap.size), .slice T.A T.l.length T.c, .slice M.A M.l.length M.c] 111) = w6 at *
            refine hcall.mono ?_
            clear hcall
            rintro e w7 ⟨hr, ⟨E7, hst, -⟩, hg⟩
            have hm8 : w.heap.size + 1 + 1 ≠ w5.heap.size := by omega
            have hm9 : w.heap.size + 1 + 1 + 1 ≠ w5.heap.size := by omega
            have HB7 : Hid (Below w.heap.size w w7) := Lib.hid (HB6.out.bel.trans (grown_below hg HB6.out.bel.size (by omega)))
            have HR7 := Lib.hid (HB6.out.bR.gm hg hm8)
            have HQ7 := Lib.hid (HB6.out.bQ.gm hg hm9)
            clear hg hst
            obtain ⟨r0, r1, r2, r3, rf, rz⟩ := HR7.out.b4
            obtain ⟨q0, qf, qz⟩ := HQ7.out.b1
            rcases hr with ⟨h0, f, rfl, hf⟩ | ⟨h0, he⟩
            · have H0 := Lib.hid h0
              have HF := Lib.hid hf
              clear hf h0
              simp only [Frc.v]
              go_wp2_with fail
              have hf8 := (HF.out.stX (X := X) (x := .int .i64 f.p.s) (y := .slice f.p.l.A f.p.l.l.length f.p.l.c) (z := .int .i64 f.q.s) (v := .slice f.q.l.A f.q.l.l.length f.q.l.c) hx8 (fun _ h => h)).set1 (a := w.heap.size + 1 + 1 + 1) (i := 0) (u := .int .i64 0) (fun b hb e => hb.2 (by rw [e]; exact hx9))
              have HF8 := Lib.hid hf8
              clear hf8
              refine leaves_cons (f := 67) (args := #[.pointer (some ⟨w.heap.size + 1 + 1, 0, none⟩), .pointer (some ⟨w.heap.size + 1 + 1 + 1, 0, none⟩)]) (by simp) (by simp [go_sem]) ?_
              refine (ev_catch_idle _ _ _).mono ?_
              rintro e u' w8 ⟨rfl, rfl, rfl⟩
              simp [Leaves, settle, results, Tryz.results45, go_sem, r0, r1, r2, r3, rz, q0, qz]
              exact ⟨f, by rw [H0.out]; rfl, fun _ => HF8.out.mono (fun b hb => by simpa using hb.1), fun h => absurd H0.out h, (below_st4 HB7.out).setCell (by simp only; omega) _⟩
            · unfold ErrV at he
              subst he
              have H0 := Lib.hid h0
              clear h0
              go_wp2_with fail
              refine leaves_cons (f := 67) (args := #[.pointer (some ⟨w.heap.size + 1 + 1, 0, none⟩), .pointer (some ⟨w.heap.size + 1 + 1 + 1, 0, none⟩)]) (by simp) (by simp [go_sem]) ?_
              refine (ev_catch (w.heap.size + 1 + 1) (w.heap.size + 1 + 1 + 1) (by omega) w.heap.size (by omega) (by omega) V.e [] _ _ _ _ _ _ HR7.out HQ7.out).mono ?_
              rintro e u' w8 ⟨rfl, rfl, hp8, hq8, hb8⟩
              obtain ⟨p0, p1, p2, p3, pf, pz⟩ := hp8.b4
              obtain ⟨s0, sf, sz⟩ := hq8.b1
              have HB8 : Hid (Below w.heap.size w w8) := Lib.hid (HB7.out.trans hb8)
              clear hp8 hq8 hb8
              simp [Leaves, settle, results, Tryz.results45, go_sem, p0, p1, p2, p3, s0]
              exact ⟨Frc.zero, rfl, fun h => absurd h H0.out, fun _ => rfl, HB8.out⟩
      · have hno : L.all (fun x => rexp x.b) = false := by rw [← HAL.out]; rfl
        have HFF := Lib.hid ((evalF_arg (e := ⟨xo, xm, xu, xs, xA, xc, xl⟩) (L := L) (T := T.l) (M := M.l) (fun h => by simp_all)).symm.trans HV.out)
        go_wp2_with fail
        have hbb : Below w.heap.size w (((((w3.setCell ⟨w.heap.size + 1 + 1, 0, none⟩ (.int .i64 0)).setCell ⟨w.heap.size + 1 + 1, 1, none⟩ (.slice none 0 0)).setCell ⟨w.heap.size + 1 + 1, 2, none⟩ (.int .i64 0)).setCell ⟨w.heap.size + 1 + 1, 3, none⟩ (.slice none 0 0)).setCell ⟨w.heap.size + 1 + 1 + 1, 0, none⟩ (.int .i64 1)) := (below_st4 HB3.out.bel).setCell (by simp only; omega) _
        show ∃ v, _ ∧ _
        refine ⟨.tuple #[.agg #[.int .i64 0, .slice none 0 0, .int .i64 0, .slice none 0 0], .int .i64 1], ?_, (ValP.cast HFF.out.symm ⟨Frc.zero, rfl, fun h => absurd h (by decide), fun _ => rfl, hbb⟩)⟩
        simp [results, Tryz.results45, go_sem, r0, r1, r2, r3, rz, q0, qz]
    · skip
      have HFF := Lib.hid ((evalF_arg (e := ⟨xo, xm, xu, xs, xA, xc, xl⟩) (L := L) (T := T.l) (M := M.l) (fun h => by simp_all)).symm.trans HV.out)
      go_wp2_with fail
      have hbb : Below w.heap.size w (((((w2.setCell ⟨w.heap.size + 1 + 1, 0, none⟩ (.int .i64 0)).setCell ⟨w.heap.size + 1 + 1, 1, none⟩ (.slice none 0 0)).setCell ⟨w.heap.size + 1 + 1, 2, none⟩ (.int .i64 0)).setCell ⟨w.heap.size + 1 + 1, 3, none⟩ (.slice none 0 0)).setCell ⟨w.heap.size + 1 + 1 + 1, 0, none⟩ (.int .i64 1)) := (below_st4 HB2.out.bel).setCell (by simp only; omega) _
      show ∃ v, _ ∧ _
      refine ⟨.tuple #[.agg #[.int .i64 0, .slice none 0 0, .int .i64 0, .slice none 0 0], .int .i64 1], ?_, (ValP.cast HFF.out.symm ⟨Frc.zero, rfl, fun h => absurd h (by decide), fun _ => rfl, hbb⟩)⟩
      simp [results, Tryz.results45, go_sem, r0, r1, r2, r3, rz, q0, qz]
end Go.Proofs.YtcgocdhhneckhaaGreat
