/- A phone joins: the walk. -/
import Derived.Test.YthnblhbdfpmolaaPNotemxbe
import Derived.Test.YthnblhbdfpmolaaPNotemxbf
namespace Go.Proofs.Ythnblhbdfpmolaa
open Go.RowKit
theorem wpAnyT_listed {P : Program} {md : Region.Mode} {ops : Array Oper} {Q : Exit → Act → World → Prop} {S : World → Prop} {T : Nat → Bool} {fuel : Nat} {l l' : Array Bool} {a : Act} {w : World} (h : l = l') (hw : wpAnyT P md ops Q S T fuel l a w) : wpAnyT P md ops Q S T fuel l' a w := h ▸ hw
theorem Blk.h5p {w : World} {g : Nat} {t : TypeId} {x y z s r : Value} (h : Blk w g t #[x, y, z, s, r]) : w.cell? ⟨g, 0, none⟩ = some x ∧ w.cell? ⟨g, 1, none⟩ = some y ∧ w.cell? ⟨g, 2, none⟩ = some z ∧ w.cell? ⟨g, 3, none⟩ = some s ∧ w.cell? ⟨g, 4, none⟩ = some r := ⟨h.cell 0, h.cell 1, h.cell 2, h.cell 3, h.cell 4⟩
theorem row_P (m : PlM) (l : List Phone) (G : Nat → Prop) : ∀ i, PlM.row { m with G := G, P := ⟨m.P.A, m.P.c, l⟩ } i = m.row i
  | 0 => rfl
  | 1 => rfl
  | 2 => rfl
  | 3 => rfl
  | 4 => rfl
  | 5 => rfl
  | _ + 6 => rfl
theorem cutP {G : Prop} (T : Prop) (main : T → G) (fin : T) : G := main fin
set_option maxRecDepth 100000 in
set_option maxHeartbeats 4000000 in
theorem pjoinZ (B : Nat) (m : PlM) (w : World) (h : PlayAt B w m) (i : Nat) (p : PhoneD) (q : List Int) (hj : JoinOK m.d i p q) :
    Calls Try.prog 50 #[.pointer (some ⟨m.g, 0, none⟩), .int .i64 i] w fun e w' => e = .returned (.bool true) ∧ ∃ m' : PlM, PlayAt B w' m' ∧ m'.g = m.g ∧ m'.d = m.d.join i p q ∧ m'.Z = m.Z ∧ Below B w w' := by
  have HP := Lib.hid h
  have HJ := Lib.hid hj
  have hpl : m.P.l.length = 3 := by have := hj.lP; simpa [PlM.d] using this
  have hi3 : i < 3 := hj.i3
  have hip : i < m.P.l.length := by omega
  have hsl : m.S.l.length ≤ 3 := by have := hj.lS; simpa [PlM.d] using this
  have h40 : m.S.l.length * 40 ≤ 140737488355328 := by omega
  have hnl : m.N.l.length ≤ 10000 := by have := hj.lN; simp only [PlM.d, List.length_map] at this; omega
  have hpd : m.P.l[i].d = p := by
    have := hj.P
    simp only [PlM.d, List.getElem?_map, List.getElem?_eq_getElem hip, Option.map_some, Option.some.injEq] at this
    exact this
  obtain ⟨pb, hPA, _, _, hcP, hfP⟩ := h.P.atk Phone.k (List.getElem?_eq_getElem hip)
  have hpr := h.rP m.P.l[i] (List.getElem_mem hip)
  obtain ⟨c0, c1, c2, c3, c4⟩ := hcP.c5
  obtain ⟨b0, b1, b2, b3, b4, b5, bf, bz⟩ := h.box.b6
  rw [hPA, hpl] at b0
  have hpr2 : RdPhone (· < w.heap.size) w m.P.l[i] := hpr.mono fun b hb => (h.G b hb).1
  have hsr : RdStocks (· < w.heap.size) w m.S := ⟨(h.S.rd Stock.k).mono fun b hb => hb.2, fun x hx => (h.rS x hx).mono fun b hb => (h.G b hb).1⟩
  clear h hj hcP hpr
  generalize m.P.l[i] = ph at *
  obtain ⟨r, hr⟩ : ∃ r, r = p.join m.d.S (countsN m.d.N) := ⟨_, rfl⟩
  obtain ⟨rp, rS, rN, rE⟩ := r
  have HRR := Lib.hid hr
  have HPD := Lib.hid hpd
  have HNL := Lib.hid hnl
  clear hr hpd hnl
  go_enter Try.func50, Try.ntmps50
  go_wp2_with fail
  obtain ⟨wb, hwb⟩ : ∃ x, x = w.drew := ⟨_, rfl⟩
  have HPB : Hid (PlayAt B wb m) := Lib.hid (by rw [hwb]; exact HP.out.drew)
  have HBW : Hid (Below w.heap.size w wb) := Lib.hid (by rw [hwb]; exact Below.drew (Below.refl _ _))
  have HPR : Hid (RdPhone (· < wb.heap.size) wb ph) := Lib.hid (hpr2.later HBW.out (Nat.le_refl _))
  have HSR : Hid (RdStocks (· < wb.heap.size) wb m.S) := Lib.hid (hsr.later HBW.out (Nat.le_refl _))
  have hss : ∀ W, Below wb.heap.size wb W → W.cell? ⟨m.g, 0, none⟩ = some (.slice (some ⟨pb, 0, none⟩) 3 m.P.c) ∧ W.cell? ⟨m.g, 1, none⟩ = some (.slice m.S.A m.S.l.length m.S.c) ∧ (W.cell? ⟨pb, i * 5, none⟩ = some (.int .i64 ph.id) ∧ W.cell? ⟨pb, i * 5 + 1, none⟩ = some (.bool ph.cut) ∧ W.cell? ⟨pb, i * 5 + 2, none⟩ = some (.slice ph.H.A ph.H.l.length ph.H.c) ∧ W.cell? ⟨pb, i * 5 + 3, none⟩ = some (.slice ph.N.A ph.N.l.length ph.N.c) ∧ W.cell? ⟨pb, i * 5 + 4, none⟩ = some (.slice ph.S.A ph.S.l.length ph.S.c)) := by
    intro W hW
    have k : ∀ {a v}, w.cell? a = some v → W.cell? a = some v := fun h => keep_cell hW (keep_cell HBW.out h)
    exact ⟨k b0, k b1, k c0, k c1, k c2, k c3, k c4⟩
  have HSS := Lib.hid hss
  have hi3' : (i : Int) < 3 := by omega
  refine wp_region_T (fun W => W.cell? ⟨m.g, 0, none⟩ = some (.slice (some ⟨pb, 0, none⟩) 3 m.P.c) ∧ W.cell? ⟨m.g, 1, none⟩ = some (.slice m.S.A m.S.l.length m.S.c) ∧ (W.cell? ⟨pb, i * 5, none⟩ = some (.int .i64 ph.id) ∧ W.cell? ⟨pb, i * 5 + 1, none⟩ = some (.bool ph.cut) ∧ W.cell? ⟨pb, i * 5 + 2, none⟩ = some (.slice ph.H.A ph.H.l.length ph.H.c) ∧ W.cell? ⟨pb, i * 5 + 3, none⟩ = some (.slice ph.N.A ph.N.l.length ph.N.c) ∧ W.cell? ⟨pb, i * 5 + 4, none⟩ = some (.slice ph.S.A ph.S.l.length ph.S.c))) (fun _ => false) (by kernel_rfl) ⟨b0, b1, c0, c1, c2, c3, c4⟩ (fun hHeld => ?_)
  rw [← hwb] at hHeld ⊢
  clear hwb b0 b1 b2 b3 b4 b5 bf bz c0 c1 c2 c3 c4 hpr2 hsr hss
  refine qtq 0 ?_
  simp only [qsa, qsb, qsc]
  refine qtq 1 ?_
  simp only [qsa, qsb, qsc]
  refine qtq 2 ?_
  simp only [qsa, qsb, qsc]
  refine qtq 3 ?_
  simp only [qsa, qsb, qsc]
  refine qtq 4 ?_
  simp only [qsa, qsb, qsc]
  refine qtq 5 ?_
  simp only [qsa, qsb, qsc]
  refine qtq 6 ?_
  simp only [qsa, qsb, qsc]
  refine qtq 7 ?_
  simp only [qsa, qsb, qsc]
  refine qtq 8 ?_
  simp only [qsa, qsb, qsc]
  refine qtq 9 ?_
  simp only [qsa, qsb, qsc]
  refine qtq 10 ?_
  simp only [qsa, qsb, qsc]
  refine qtq 11 ?_
  simp only [qsa, qsb, qsc]
  clear hHeld
  obtain ⟨W, hW⟩ : ∃ x, x = wb := ⟨_, rfl⟩
  have FK : Hid (Below wb.heap.size wb W) := Lib.hid (by rw [hW]; exact Below.refl _ _)
  rw [← hW]
  clear hW
  apply cutP
  · intro fin0
    have FIN := Lib.hid fin0
    clear fin0
    refine wpAnyT_two (i := 12) (j := 19) (by kernel_rfl) rfl rfl ?_ ?_
    · skip
      go_wp2_with fail
      refine (pcounts B m W (HPB.out.below FK.out) HNL.out).mono ?_
      rintro e W2 ⟨cx, rfl, hcl, hcr, hbc⟩
      have hk : Below wb.heap.size wb W2 := FK.out.trans (hbc.mono FK.out.size)
      try replace FX := Lib.hid (FX.out.later hbc)
      have FC := Lib.hid (hcr.mono (G := fun b => b < W2.heap.size) (fun b hb => hb.2))
      have HCL := Lib.hid hcl
      clear hbc hcr hcl
      obtain ⟨W, hW⟩ : ∃ x, x = W2 := ⟨_, rfl⟩
      subst hW
      have FK := Lib.hid hk
      clear hk
      go_wp2_with fail
      refine And.intro ?_ ?_
      · first
        | exact HSS.out _ FK.out
        | exact fun _ => HSS.out _ FK.out
      refine wpAnyT_two (i := 13) (j := 19) (by kernel_rfl) rfl rfl ?_ ?_
      · skip
        go_wp2_with fail
        refine (phone_join_o ph m.S cx W (HPR.out.later FK.out (Nat.le_refl _)) (HSR.out.later FK.out (Nat.le_refl _)) FC.out h40).mono ?_
        rintro e W2 ⟨p', s', n', rfl, hdj, hsj, hnj, hjr, hb⟩
        have hJ : ph.d.join (m.S.l.map Stock.d) cx.l = (rp, rS, rN, rE) := by rw [HRR.out, ← HPD.out, HCL.out]; rfl
        rw [hJ] at hdj hsj hnj hjr
        rw [hJ]
        simp only at hdj hsj hnj hjr
        have DJ := Lib.hid (And.intro hdj (And.intro hsj hnj))
        have hk : Below wb.heap.size wb W2 := FK.out.trans (hb.mono FK.out.size)
        have JR0 := Lib.hid (And.intro (FK.out.size) hjr.out)
        try replace FX := Lib.hid (FX.out.later hb)
        clear hdj hsj hnj hjr hJ hb FC HCL
        obtain ⟨W, hW⟩ : ∃ x, x = W2 := ⟨_, rfl⟩
        subst hW
        have FK := Lib.hid hk
        clear hk
        simp only [Phone.v]
        go_wp2_with fail
        refine And.intro ?_ ?_
        · first
          | exact HSS.out _ FK.out
          | exact fun _ => HSS.out _ FK.out
        have hHeld := HSS.out _ FK.out
        refine qtq 14 ?_
        simp only [qsa, qsb, qsc]
        refine qtq 15 ?_
        simp only [qsa, qsb, qsc]
        refine qtq 16 ?_
        simp only [qsa, qsb, qsc]
        refine qtq 17 ?_
        simp only [qsa, qsb, qsc]
        refine qtq 18 ?_
        simp only [qsa, qsb, qsc]
        clear hHeld
        refine wpAnyT_next (i := 19) (by kernel_rfl) rfl ?_
        go_wp2_with fail
        have hk : Below wb.heap.size wb (W.alloc (.cells #[.int .i64 0, .bool false, .slice none 0 0, .slice none 0 0, .slice none 0 0] 33)) := FK.out.alloc FK.out.size _
        have hx : Blk (W.alloc (.cells #[.int .i64 0, .bool false, .slice none 0 0, .slice none 0 0, .slice none 0 0] 33)) W.heap.size 33 #[.int .i64 0, .bool false, .slice none 0 0, .slice none 0 0, .slice none 0 0] := Blk.new _ _ _
        have hg : wb.heap.size ≤ W.heap.size := FK.out.size
        have hc : ∀ s : Sl Int, Rd (· < W.heap.size) 1 ienc W s → Rd (· < (W.alloc (.cells #[.int .i64 0, .bool false, .slice none 0 0, .slice none 0 0, .slice none 0 0] 33)).heap.size) 1 ienc (W.alloc (.cells #[.int .i64 0, .bool false, .slice none 0 0, .slice none 0 0, .slice none 0 0] 33)) s := fun s h => h.lt_alloc _
        have jr := JRes.of (gx := W.heap.size) (W := W.alloc (.cells #[.int .i64 0, .bool false, .slice none 0 0, .slice none 0 0, .slice none 0 0] 33)) JR0.out.1 (by simp) (fun b hb => Below.heap_alloc _ _ b hb) (.inr (Nat.le_refl _)) JR0.out.2
        have HC := Lib.hid hc
        clear hc
        generalize W.heap.size = gx at hx hg jr ⊢
        generalize W.alloc (.cells #[.int .i64 0, .bool false, .slice none 0 0, .slice none 0 0, .slice none 0 0] 33) = W2 at hk hx HC jr ⊢
        try replace FC := Lib.hid (HC.out _ FC.out)
        clear HC
        obtain ⟨W, hW⟩ : ∃ x, x = W2 := ⟨_, rfl⟩
        subst hW
        have FK := Lib.hid hk
        have FX := Lib.hid hx
        have FG := Lib.hid hg
        have JR := Lib.hid jr
        clear hk hx hg
        refine And.intro ?_ ?_
        · first
          | exact HSS.out _ FK.out
          | exact fun _ => HSS.out _ FK.out
        have ALL := Lib.hid (And.intro JR.out (And.intro DJ.out (And.intro FX.out (And.intro FG.out FK.out))))
        clear JR DJ FX FG FK
        try clear JR0
        try clear jr
        revert ALL
        revert W
        revert n'
        revert s'
        revert p'
        revert cx
        revert gx
        exact FIN.out
      · skip
        go_wp2_with fail
        have hk : Below wb.heap.size wb (W.alloc (.cells #[.int .i64 0, .bool false, .slice none 0 0, .slice none 0 0, .slice none 0 0] 33)) := FK.out.alloc FK.out.size _
        have hx : Blk (W.alloc (.cells #[.int .i64 0, .bool false, .slice none 0 0, .slice none 0 0, .slice none 0 0] 33)) W.heap.size 33 #[.int .i64 0, .bool false, .slice none 0 0, .slice none 0 0, .slice none 0 0] := Blk.new _ _ _
        have hg : wb.heap.size ≤ W.heap.size := FK.out.size
        have hc : ∀ s : Sl Int, Rd (· < W.heap.size) 1 ienc W s → Rd (· < (W.alloc (.cells #[.int .i64 0, .bool false, .slice none 0 0, .slice none 0 0, .slice none 0 0] 33)).heap.size) 1 ienc (W.alloc (.cells #[.int .i64 0, .bool false, .slice none 0 0, .slice none 0 0, .slice none 0 0] 33)) s := fun s h => h.lt_alloc _
        skip
        have HC := Lib.hid hc
        clear hc
        generalize W.heap.size = gx at hx hg  ⊢
        generalize W.alloc (.cells #[.int .i64 0, .bool false, .slice none 0 0, .slice none 0 0, .slice none 0 0] 33) = W2 at hk hx HC  ⊢
        try replace FC := Lib.hid (HC.out _ FC.out)
        clear HC
        obtain ⟨W, hW⟩ : ∃ x, x = W2 := ⟨_, rfl⟩
        subst hW
        have FK := Lib.hid hk
        have FX := Lib.hid hx
        have FG := Lib.hid hg
        skip
        clear hk hx hg
        refine And.intro ?_ ?_
        · first
          | exact HSS.out _ FK.out
          | exact fun _ => HSS.out _ FK.out
        refine wpAnyT_next (i := 13) (by kernel_rfl) rfl ?_
        go_wp2_with fail
        refine (phone_join_o ph m.S cx W (HPR.out.later FK.out (Nat.le_refl _)) (HSR.out.later FK.out (Nat.le_refl _)) FC.out h40).mono ?_
        rintro e W2 ⟨p', s', n', rfl, hdj, hsj, hnj, hjr, hb⟩
        have hJ : ph.d.join (m.S.l.map Stock.d) cx.l = (rp, rS, rN, rE) := by rw [HRR.out, ← HPD.out, HCL.out]; rfl
        rw [hJ] at hdj hsj hnj hjr
        rw [hJ]
        simp only at hdj hsj hnj hjr
        have DJ := Lib.hid (And.intro hdj (And.intro hsj hnj))
        have hk : Below wb.heap.size wb W2 := FK.out.trans (hb.mono FK.out.size)
        have JR := Lib.hid (JRes.of (gx := gx) (W := W2) FK.out.size (Nat.le_refl _) (fun _ _ => rfl) (.inl FX.out.lt) hjr.out)
        try replace FX := Lib.hid (FX.out.later hb)
        clear hdj hsj hnj hjr hJ hb FC HCL
        obtain ⟨W, hW⟩ : ∃ x, x = W2 := ⟨_, rfl⟩
        subst hW
        have FK := Lib.hid hk
        clear hk
        simp only [Phone.v]
        go_wp2_with fail
        refine And.intro ?_ ?_
        · first
          | exact HSS.out _ FK.out
          | exact fun _ => HSS.out _ FK.out
        have hHeld := HSS.out _ FK.out
        refine qtq 14 ?_
        simp only [qsa, qsb, qsc]
        refine qtq 15 ?_
        simp only [qsa, qsb, qsc]
        refine qtq 16 ?_
        simp only [qsa, qsb, qsc]
        refine qtq 17 ?_
        simp only [qsa, qsb, qsc]
        refine qtq 18 ?_
        simp only [qsa, qsb, qsc]
        clear hHeld
        have ALL := Lib.hid (And.intro JR.out (And.intro DJ.out (And.intro FX.out (And.intro FG.out FK.out))))
        exact wpAnyT_listed (by kernel_rfl) (FIN.out gx cx p' s' n' W ALL)
    · skip
      go_wp2_with fail
      have hk : Below wb.heap.size wb (W.alloc (.cells #[.int .i64 0, .bool false, .slice none 0 0, .slice none 0 0, .slice none 0 0] 33)) := FK.out.alloc FK.out.size _
      have hx : Blk (W.alloc (.cells #[.int .i64 0, .bool false, .slice none 0 0, .slice none 0 0, .slice none 0 0] 33)) W.heap.size 33 #[.int .i64 0, .bool false, .slice none 0 0, .slice none 0 0, .slice none 0 0] := Blk.new _ _ _
      have hg : wb.heap.size ≤ W.heap.size := FK.out.size
      have hc : ∀ s : Sl Int, Rd (· < W.heap.size) 1 ienc W s → Rd (· < (W.alloc (.cells #[.int .i64 0, .bool false, .slice none 0 0, .slice none 0 0, .slice none 0 0] 33)).heap.size) 1 ienc (W.alloc (.cells #[.int .i64 0, .bool false, .slice none 0 0, .slice none 0 0, .slice none 0 0] 33)) s := fun s h => h.lt_alloc _
      skip
      have HC := Lib.hid hc
      clear hc
      generalize W.heap.size = gx at hx hg  ⊢
      generalize W.alloc (.cells #[.int .i64 0, .bool false, .slice none 0 0, .slice none 0 0, .slice none 0 0] 33) = W2 at hk hx HC  ⊢
      try replace FC := Lib.hid (HC.out _ FC.out)
      clear HC
      obtain ⟨W, hW⟩ : ∃ x, x = W2 := ⟨_, rfl⟩
      subst hW
      have FK := Lib.hid hk
      have FX := Lib.hid hx
      have FG := Lib.hid hg
      skip
      clear hk hx hg
      refine And.intro ?_ ?_
      · first
        | exact HSS.out _ FK.out
        | exact fun _ => HSS.out _ FK.out
      refine wpAnyT_next (i := 12) (by kernel_rfl) rfl ?_
      go_wp2_with fail
      refine (pcounts B m W (HPB.out.below FK.out) HNL.out).mono ?_
      rintro e W2 ⟨cx, rfl, hcl, hcr, hbc⟩
      have hk : Below wb.heap.size wb W2 := FK.out.trans (hbc.mono FK.out.size)
      try replace FX := Lib.hid (FX.out.later hbc)
      have FC := Lib.hid (hcr.mono (G := fun b => b < W2.heap.size) (fun b hb => hb.2))
      have HCL := Lib.hid hcl
      clear hbc hcr hcl
      obtain ⟨W, hW⟩ : ∃ x, x = W2 := ⟨_, rfl⟩
      subst hW
      have FK := Lib.hid hk
      clear hk
      go_wp2_with fail
      refine And.intro ?_ ?_
      · first
        | exact HSS.out _ FK.out
        | exact fun _ => HSS.out _ FK.out
      refine wpAnyT_next (i := 13) (by kernel_rfl) rfl ?_
      go_wp2_with fail
      refine (phone_join_o ph m.S cx W (HPR.out.later FK.out (Nat.le_refl _)) (HSR.out.later FK.out (Nat.le_refl _)) FC.out h40).mono ?_
      rintro e W2 ⟨p', s', n', rfl, hdj, hsj, hnj, hjr, hb⟩
      have hJ : ph.d.join (m.S.l.map Stock.d) cx.l = (rp, rS, rN, rE) := by rw [HRR.out, ← HPD.out, HCL.out]; rfl
      rw [hJ] at hdj hsj hnj hjr
      rw [hJ]
      simp only at hdj hsj hnj hjr
      have DJ := Lib.hid (And.intro hdj (And.intro hsj hnj))
      have hk : Below wb.heap.size wb W2 := FK.out.trans (hb.mono FK.out.size)
      have JR := Lib.hid (JRes.of (gx := gx) (W := W2) FK.out.size (Nat.le_refl _) (fun _ _ => rfl) (.inl FX.out.lt) hjr.out)
      try replace FX := Lib.hid (FX.out.later hb)
      clear hdj hsj hnj hjr hJ hb FC HCL
      obtain ⟨W, hW⟩ : ∃ x, x = W2 := ⟨_, rfl⟩
      subst hW
      have FK := Lib.hid hk
      clear hk
      simp only [Phone.v]
      go_wp2_with fail
      refine And.intro ?_ ?_
      · first
        | exact HSS.out _ FK.out
        | exact fun _ => HSS.out _ FK.out
      have hHeld := HSS.out _ FK.out
      refine qtq 14 ?_
      simp only [qsa, qsb, qsc]
      refine qtq 15 ?_
      simp only [qsa, qsb, qsc]
      refine qtq 16 ?_
      simp only [qsa, qsb, qsc]
      refine qtq 17 ?_
      simp only [qsa, qsb, qsc]
      refine qtq 18 ?_
      simp only [qsa, qsb, qsc]
      clear hHeld
      have ALL := Lib.hid (And.intro JR.out (And.intro DJ.out (And.intro FX.out (And.intro FG.out FK.out))))
      exact wpAnyT_listed (by kernel_rfl) (FIN.out gx cx p' s' n' W ALL)
  · skip
    intro gx cx p' s' n' W ALL
    obtain ⟨hjr, ⟨hdj, hsj, hnj⟩, hfx, hfg, hfk⟩ := ALL.out
    clear ALL
    obtain ⟨x0, x1, x2, x3, x4, xf, xz⟩ := hfx.b5
    have hgx : m.g < wb.heap.size := (HPB.out.rb (i := 0) rfl).1
    have hpx : pb < wb.heap.size := (HPB.out.rb (i := 1) hPA).1
    have hbV : ∀ v0 v1 v2 v3 v4 : Value, Below wb.heap.size wb (((((W.setCell ⟨gx, 0, none⟩ v0).setCell ⟨gx, 1, none⟩ v1).setCell ⟨gx, 2, none⟩ v2).setCell ⟨gx, 3, none⟩ v3).setCell ⟨gx, 4, none⟩ v4) := fun v0 v1 v2 v3 v4 => ((((hfk.setCell hfg v0).setCell hfg v1).setCell hfg v2).setCell hfg v3).setCell hfg v4
    have hkV : ∀ v0 v1 v2 v3 v4 : Value, ∀ b, b ≠ gx → (((((W.setCell ⟨gx, 0, none⟩ v0).setCell ⟨gx, 1, none⟩ v1).setCell ⟨gx, 2, none⟩ v2).setCell ⟨gx, 3, none⟩ v3).setCell ⟨gx, 4, none⟩ v4).heap[b]? = W.heap[b]? := fun v0 v1 v2 v3 v4 b hne => by
      rw [Below.heap_setCell _ _ _ _ hne, Below.heap_setCell _ _ _ _ hne, Below.heap_setCell _ _ _ _ hne, Below.heap_setCell _ _ _ _ hne, Below.heap_setCell _ _ _ _ hne]
    have hxV : ∀ v0 v1 v2 v3 v4 : Value, Blk (((((W.setCell ⟨gx, 0, none⟩ v0).setCell ⟨gx, 1, none⟩ v1).setCell ⟨gx, 2, none⟩ v2).setCell ⟨gx, 3, none⟩ v3).setCell ⟨gx, 4, none⟩ v4) gx 33 #[v0, v1, v2, v3, v4] := fun v0 v1 v2 v3 v4 => ((((hfx.set_ 0 v0).set_ 1 v1).set_ 2 v2).set_ 3 v3).set_ 4 v4
    have HBV := Lib.hid hbV
    have HKV := Lib.hid hkV
    have HXV := Lib.hid hxV
    have HJR := Lib.hid hjr
    have HDJ := Lib.hid hdj
    have HSJ := Lib.hid hsj
    have HNJ := Lib.hid hnj
    have HFG := Lib.hid hfg
    clear hbV hkV hxV hjr hdj hsj hnj hfx hfk
    refine wpAnyT_next (i := 20) (by kernel_rfl) rfl ?_
    go_wp2_with fail
    have hHeld := HSS.out _ (HBV.out (.int .i64 p'.id) (.bool p'.cut) (.slice p'.H.A p'.H.l.length p'.H.c) (.slice p'.N.A p'.N.l.length p'.N.c) (.slice p'.S.A p'.S.l.length p'.S.c))
    refine And.intro ?_ ?_
    · first
      | exact hHeld
      | exact fun _ => hHeld
    refine qtq 21 ?_
    simp only [qsa, qsb, qsc]
    refine qtq 22 ?_
    simp only [qsa, qsb, qsc]
    refine qtq 23 ?_
    simp only [qsa, qsb, qsc]
    refine wpAnyT_done (by kernel_rfl) ?_ _
    clear hHeld x0 x1 x2 x3 x4 xf xz
    have hnx : ∀ V, V = (((((W.setCell ⟨gx, 0, none⟩ (.int .i64 p'.id)).setCell ⟨gx, 1, none⟩ (.bool p'.cut)).setCell ⟨gx, 2, none⟩ (.slice p'.H.A p'.H.l.length p'.H.c)).setCell ⟨gx, 3, none⟩ (.slice p'.N.A p'.N.l.length p'.N.c)).setCell ⟨gx, 4, none⟩ (.slice p'.S.A p'.S.l.length p'.S.c)) → Below wb.heap.size wb V ∧ JRes wb.heap.size V gx rE p' s' n' ∧ Blk V gx 33 #[.int .i64 p'.id, .bool p'.cut, .slice p'.H.A p'.H.l.length p'.H.c, .slice p'.N.A p'.N.l.length p'.N.c, .slice p'.S.A p'.S.l.length p'.S.c] := by
      rintro V rfl
      exact ⟨HBV.out _ _ _ _ _, HJR.out.keep (by simp) (HKV.out _ _ _ _ _), HXV.out _ _ _ _ _⟩
    obtain ⟨V, hV⟩ : ∃ V, V = (((((W.setCell ⟨gx, 0, none⟩ (.int .i64 p'.id)).setCell ⟨gx, 1, none⟩ (.bool p'.cut)).setCell ⟨gx, 2, none⟩ (.slice p'.H.A p'.H.l.length p'.H.c)).setCell ⟨gx, 3, none⟩ (.slice p'.N.A p'.N.l.length p'.N.c)).setCell ⟨gx, 4, none⟩ (.slice p'.S.A p'.S.l.length p'.S.c)) := ⟨_, rfl⟩
    obtain ⟨v1, v2, v3⟩ := hnx V hV
    rw [← hV]
    have VB := Lib.hid v1
    have VJ := Lib.hid v2
    have VX := Lib.hid v3
    clear hnx hV v1 v2 v3 HBV HKV HXV HJR
    clear W
    have hss := HSS.out V VB.out
    obtain ⟨d0, d1, d2, d3, d4, d5, df, dz⟩ := (HPB.out.below VB.out).box.b6
    clear d0 d1 d2 d3 d4 df
    have hbw : B ≤ w.heap.size := Nat.le_trans HP.out.lo (Nat.le_of_lt HP.out.box.lt)
    have hBV : Below B w V := (HBW.out.mono hbw).trans (VB.out.mono (Nat.le_trans hbw HBW.out.size))
    rcases VJ.out with ⟨hE, hn0⟩ | ⟨hE, hnew, hnn⟩
    · subst hn0
      have e1 : (rE != 0) = true := by simp [hE]
      have hdd : m.d.join i p q = m.d := by
        unfold PlD.join
        rw [← HRR.out, if_neg hE]
      have HDD := Lib.hid hdd
      clear hE hdd hss
      go_wp2_with fail
      go_ret
      exact ⟨by simp [Act.eval, go_sem], m, HPB.out.below VB.out, rfl, HDD.out.symm, rfl, hBV⟩
    · subst hE
      have hok := HJ.out.ok (by rw [← HRR.out])
      rw [← HRR.out] at hok
      simp only at hok
      obtain ⟨hm0, hls, hrn⟩ := hok
      have hmn := merge_note m.N n' V ((HPB.out.below VB.out).rN.mono fun b hb => ((HPB.out.below VB.out).G b hb).1) (hnn.mono fun b hb => hb.1.2) (by
        have h1 := HJ.out.lN
        have h2 : n'.l.length = p.N.length := by rw [← hrn, ← HNJ.out, List.length_map]
        simp only [PlM.d, List.length_map] at h1
        omega)
      rw [HNJ.out, hrn] at hmn
      obtain ⟨M, hM⟩ : ∃ M, mergeN (m.N.l.map Note.d) p.N = (M, 0) := ⟨(mergeN (m.N.l.map Note.d) p.N).1, Prod.ext rfl hm0⟩
      rw [hM] at hmn
      have HM := Lib.hid hM
      have HNEW := Lib.hid hnew
      have HNN := Lib.hid hnn
      have HLS := Lib.hid hls
      have HRN := Lib.hid hrn
      clear hm0 hls hrn hM hnew hnn hss VJ
      go_wp2_with fail
      refine hmn.mono ?_
      clear hmn
      rintro e V2 ⟨x, rfl, hxl, hxr, hb2⟩
      have VB2 := Lib.hid (VB.out.trans (hb2.mono VB.out.size))
      have VX2 := Lib.hid (VX.out.later hb2)
      have HB2 := Lib.hid hb2
      have HXL := Lib.hid hxl
      have HXR := Lib.hid hxr
      obtain ⟨e0, e1, e2, e3, e4, e5, ef, ez⟩ := (HPB.out.below VB2.out).box.b6
      obtain ⟨f0, f1, f2, f3, f4, f5, f6⟩ := HSS.out V2 VB2.out
      rw [hPA, hpl] at e0
      have hsl2 : s'.l.length = m.S.l.length := by
        have h1 := HLS.out
        rw [← HSJ.out] at h1
        simpa [PlM.d] using h1
      have hrl := rlists n' ph.N V2 ((HNN.out.mono (G := fun b => b < V.heap.size) (fun b hb => hb.1.2)).later hb2 (Nat.le_refl _)) (HPR.out.2.1.later VB2.out (Nat.le_refl _))
      have hnph : n'.l.map Note.d = ph.N.l.map Note.d := by
        rw [HNJ.out, HRN.out, ← HPD.out]; rfl
      rw [hnph, listsN_refl] at hrl
      clear hb2 hxl hxr hnph d5 e2 e3 e4 e5 f0 f1
      rw [hsl2]
      go_wp2_with fail
      refine hrl.mono ?_
      clear hrl
      rintro e V3 ⟨rfl, hb3⟩
      go_wp2_with fail
      have VB3 := Lib.hid (VB2.out.trans (hb3.mono VB2.out.size))
      have hV3 : Below V.heap.size V V3 := HB2.out.trans (hb3.mono HB2.out.size)
      have hzz : V.heap.size ≤ V3.heap.size := hV3.size
      have hgxV : gx < V.heap.size := VX.out.lt
      have hp3 := HPB.out.more VB3.out (fun b => b ≠ gx ∧ ∀ g, s'.A = some ⟨g, 0, none⟩ → b ≠ g)
      obtain ⟨G1, hG1⟩ : ∃ G1 : Nat → Prop, G1 = fun b => m.G b ∨ (wb.heap.size ≤ b ∧ b < V3.heap.size ∧ (b ≠ gx ∧ ∀ g, s'.A = some ⟨g, 0, none⟩ → b ≠ g)) := ⟨_, rfl⟩
      rw [← hG1] at hp3
      have hph : RdPhone G1 V3 p' := by
        rw [hG1]
        exact (HNEW.out.phone.keep (fun b hb => hV3.block b hb.1.2)).mono (fun b hb => .inr ⟨hb.1.1, Nat.lt_of_lt_of_le hb.1.2 hzz, hb.2.1, hb.2.2⟩)
      have hlo : ∀ y, y ∈ s'.l → Rd G1 3 Loan.enc V3 y.L := by
        rw [hG1]
        exact fun y hy => ((HNEW.out.loans y hy).keep (fun b hb => hV3.block b hb.1.2)).mono (fun b hb => .inr ⟨hb.1.1, Nat.lt_of_lt_of_le hb.1.2 hzz, hb.2.1, hb.2.2⟩)
      have hxn : RdNotes G1 V3 x := by
        rw [hG1]
        exact (HXR.out.keep (fun b hb => hb3.block b hb.2)).mono (fun b hb => .inr ⟨Nat.le_trans VB.out.size hb.1, Nat.lt_of_lt_of_le hb.2 hb3.size, by omega, fun g hg => by have := HNEW.out.row.bound g hg; omega⟩)
      have hrow : Own wb.heap.size 66 3 Stock.enc V3 s' := HNEW.out.row.below hV3
      have hnr : ∀ g, s'.A = some ⟨g, 0, none⟩ → wb.heap.size ≤ g ∧ ∀ c, G1 c → c ≠ g := by
        intro g hg
        have h1 := HNEW.out.row.lo g hg
        refine ⟨h1, fun c hc => ?_⟩
        rw [hG1] at hc
        rcases hc with hc | hc
        · have := (HPB.out.G c hc).1; omega
        · exact hc.2.2.2 g hg
      have HPH := Lib.hid hph
      have HLO := Lib.hid hlo
      have HXN := Lib.hid hxn
      have HROW := Lib.hid hrow
      have HNR := Lib.hid hnr
      have HP3 := Lib.hid hp3
      have hk5 := (VX.out.later hV3).h5p
      obtain ⟨pb', hPA', _, _, hcP', hfP'⟩ := hp3.P.atk Phone.k (i := i) (x := m.P.l[i]) (List.getElem?_eq_getElem hip)
      obtain rfl : pb' = pb := by
        have h1 : m.P.A = some ⟨pb', 0, none⟩ := hPA'
        rw [hPA] at h1
        injection h1 with h1
        injection h1 with h1
        exact h1.symm
      obtain ⟨k0, k1, k2, k3, k4⟩ := hcP'.c5
      have hb0 : V3.cell? ⟨m.g, 0, none⟩ = some (.slice (some ⟨pb', 0, none⟩) 3 m.P.c) := (HSS.out V3 VB3.out).1
      have hBV3 : Below B w V3 := hBV.trans (hV3.mono (Nat.le_trans hbw (Nat.le_trans HBW.out.size VB.out.size)))
      have HBV3 := Lib.hid hBV3
      clear hG1 hph hlo hxn hrow hnr hp3 hcP' hb3 hV3 hBV hBV3 e0 e1 f2 f3 f4 f5 f6 HXR HNEW HNN HB2 HPR HSR hPA'
      refine wp_region_T (fun W => W.cell? ⟨m.g, 0, none⟩ = some (.slice (some ⟨pb', 0, none⟩) 3 m.P.c) ∧ W.cell? ⟨gx, 0, none⟩ = some (.int .i64 p'.id) ∧ W.cell? ⟨gx, 1, none⟩ = some (.bool p'.cut) ∧ W.cell? ⟨gx, 2, none⟩ = some (.slice p'.H.A p'.H.l.length p'.H.c) ∧ W.cell? ⟨gx, 3, none⟩ = some (.slice p'.N.A p'.N.l.length p'.N.c) ∧ W.cell? ⟨gx, 4, none⟩ = some (.slice p'.S.A p'.S.l.length p'.S.c)) (fun i => 7 ≤ i) (by kernel_rfl) ⟨hb0, hk5⟩ (fun hHeld => ?_)
      refine qtq 0 ?_
      simp only [qsa, qsb, qsc]
      refine qtq 1 ?_
      simp only [qsa, qsb, qsc]
      refine qtq 2 ?_
      simp only [qsa, qsb, qsc]
      refine qtq 3 ?_
      simp only [qsa, qsb, qsc]
      refine qtq 4 ?_
      simp only [qsa, qsb, qsc]
      refine qtq 5 ?_
      simp only [qsa, qsb, qsc]
      refine qtq 6 ?_
      simp only [qsa, qsb, qsc]
      clear hHeld
      refine wpAnyT_next (i := 7) (by kernel_rfl) rfl ?_
      go_wp2_with fail
      try simp only [QT]
      try (with_reducible refine And.intro (fun h => by simp at h) ?_)
      refine wpAnyT_done (by kernel_rfl) ?_ _
      clear k0 k1 k2 k3 k4 hfP' hb0 hk5
      have hp4 := HP3.out.stP (b := pb') (w' := (((((V3.setCell ⟨pb', i * 5, none⟩ (.int .i64 p'.id)).setCell ⟨pb', i * 5 + 1, none⟩ (.bool p'.cut)).setCell ⟨pb', i * 5 + 2, none⟩ (.slice p'.H.A p'.H.l.length p'.H.c)).setCell ⟨pb', i * 5 + 3, none⟩ (.slice p'.N.A p'.N.l.length p'.N.c)).setCell ⟨pb', i * 5 + 4, none⟩ (.slice p'.S.A p'.S.l.length p'.S.c))) hPA (by simp) (pst_off _ _ _ _) (l := m.P.l.set i p') (by simp) (by
        have hq := HP3.out.P
        unfold Own at hq
        rw [show ({ m with G := G1 } : PlM).P.A = some ⟨pb', 0, none⟩ from hPA] at hq ⊢
        exact Own.setPhone (B := B) (w := V3) (l := m.P.l) hq p' (List.getElem?_eq_getElem hip)) (fun y hy => by
        rcases List.mem_or_eq_of_mem_set hy with hy | rfl
        · exact HP3.out.rP y hy
        · exact HPH.out)
      have hB4 : Below B w (((((V3.setCell ⟨pb', i * 5, none⟩ (.int .i64 p'.id)).setCell ⟨pb', i * 5 + 1, none⟩ (.bool p'.cut)).setCell ⟨pb', i * 5 + 2, none⟩ (.slice p'.H.A p'.H.l.length p'.H.c)).setCell ⟨pb', i * 5 + 3, none⟩ (.slice p'.N.A p'.N.l.length p'.N.c)).setCell ⟨pb', i * 5 + 4, none⟩ (.slice p'.S.A p'.S.l.length p'.S.c)) := by
        have hpB : B ≤ pb' := (HPB.out.rb (i := 1) hPA).2
        exact ((((HBV3.out.setCell hpB _).setCell hpB _).setCell hpB _).setCell hpB _).setCell hpB _
      have hlo4 : ∀ y, y ∈ s'.l → Rd G1 3 Loan.enc (((((V3.setCell ⟨pb', i * 5, none⟩ (.int .i64 p'.id)).setCell ⟨pb', i * 5 + 1, none⟩ (.bool p'.cut)).setCell ⟨pb', i * 5 + 2, none⟩ (.slice p'.H.A p'.H.l.length p'.H.c)).setCell ⟨pb', i * 5 + 3, none⟩ (.slice p'.N.A p'.N.l.length p'.N.c)).setCell ⟨pb', i * 5 + 4, none⟩ (.slice p'.S.A p'.S.l.length p'.S.c)) y.L := fun y hy => (HLO.out y hy).keep fun c hc => pst_off _ _ _ _ c ((HP3.out.G c hc).2.1 1 _ hPA)
      have hxn4 : RdNotes G1 (((((V3.setCell ⟨pb', i * 5, none⟩ (.int .i64 p'.id)).setCell ⟨pb', i * 5 + 1, none⟩ (.bool p'.cut)).setCell ⟨pb', i * 5 + 2, none⟩ (.slice p'.H.A p'.H.l.length p'.H.c)).setCell ⟨pb', i * 5 + 3, none⟩ (.slice p'.N.A p'.N.l.length p'.N.c)).setCell ⟨pb', i * 5 + 4, none⟩ (.slice p'.S.A p'.S.l.length p'.S.c)) x := HXN.out.keep fun c hc => pst_off _ _ _ _ c ((HP3.out.G c hc).2.1 1 _ hPA)
      have hrow4 : Own B 66 3 Stock.enc (((((V3.setCell ⟨pb', i * 5, none⟩ (.int .i64 p'.id)).setCell ⟨pb', i * 5 + 1, none⟩ (.bool p'.cut)).setCell ⟨pb', i * 5 + 2, none⟩ (.slice p'.H.A p'.H.l.length p'.H.c)).setCell ⟨pb', i * 5 + 3, none⟩ (.slice p'.N.A p'.N.l.length p'.N.c)).setCell ⟨pb', i * 5 + 4, none⟩ (.slice p'.S.A p'.S.l.length p'.S.c)) s' := (HROW.out.keepr fun g hg => pst_off _ _ _ _ g (by
        have := HROW.out.lo g hg
        omega)).mono (Nat.le_trans hbw HBW.out.size)
      have HP4 := Lib.hid hp4.drew
      have HB4 := Lib.hid (Below.drew hB4)
      have HLO4 : Hid (∀ y, y ∈ s'.l → Rd G1 3 Loan.enc (World.drew (((((V3.setCell ⟨pb', i * 5, none⟩ (.int .i64 p'.id)).setCell ⟨pb', i * 5 + 1, none⟩ (.bool p'.cut)).setCell ⟨pb', i * 5 + 2, none⟩ (.slice p'.H.A p'.H.l.length p'.H.c)).setCell ⟨pb', i * 5 + 3, none⟩ (.slice p'.N.A p'.N.l.length p'.N.c)).setCell ⟨pb', i * 5 + 4, none⟩ (.slice p'.S.A p'.S.l.length p'.S.c))) y.L) := Lib.hid (fun y hy => (hlo4 y hy).keep (fun _ _ => rfl))
      have HXN4 : Hid (RdNotes G1 (World.drew (((((V3.setCell ⟨pb', i * 5, none⟩ (.int .i64 p'.id)).setCell ⟨pb', i * 5 + 1, none⟩ (.bool p'.cut)).setCell ⟨pb', i * 5 + 2, none⟩ (.slice p'.H.A p'.H.l.length p'.H.c)).setCell ⟨pb', i * 5 + 3, none⟩ (.slice p'.N.A p'.N.l.length p'.N.c)).setCell ⟨pb', i * 5 + 4, none⟩ (.slice p'.S.A p'.S.l.length p'.S.c))) x) := Lib.hid (hxn4.keep (fun _ _ => rfl))
      have HROW4 := Lib.hid hrow4.drew
      clear hp4 hB4 hlo4 hxn4 hrow4 HP3 HLO HXN HROW HBV3
      generalize World.drew (((((V3.setCell ⟨pb', i * 5, none⟩ (.int .i64 p'.id)).setCell ⟨pb', i * 5 + 1, none⟩ (.bool p'.cut)).setCell ⟨pb', i * 5 + 2, none⟩ (.slice p'.H.A p'.H.l.length p'.H.c)).setCell ⟨pb', i * 5 + 3, none⟩ (.slice p'.N.A p'.N.l.length p'.N.c)).setCell ⟨pb', i * 5 + 4, none⟩ (.slice p'.S.A p'.S.l.length p'.S.c)) = V4 at *
      have hg0 : V4.cell? ⟨m.g, 1, none⟩ = some (.slice m.S.A m.S.l.length m.S.c) := HP4.out.box.cell 1
      have hg5 : V4.cell? ⟨m.g, 5, none⟩ = some (.slice m.N.A m.N.l.length m.N.c) := HP4.out.box.cell 5
      have bf := HP4.out.box.frozen
      simp only at bf
      have HSL2 := Lib.hid hsl2
      have HPA := Lib.hid hPA
      have HPLL := Lib.hid hpl
      clear hsl2 hPA hpl h40 hip hgx hpx hgxV hzz
      go_wp2_with fail
      have hp5 := HP4.out.stBS (S' := s') HROW4.out (n := wb.heap.size) HNR.out (fun r z hz => (HPB.out.rb (i := r) (by rw [row_P] at hz; exact hz)).1) (fun y z hy hz => (HPB.out.qb hy hz).1) HLO4.out
      have hp6 := hp5.stBN (N' := x) (HXN4.out.keep fun c hc => setCell_off _ _ _ c ((HP4.out.G c hc).2.1 0 ⟨m.g, 0, none⟩ rfl))
      have hmB : B ≤ m.g := HPB.out.lo
      have hB6 := (HB4.out.setCell (p := ⟨m.g, 1, none⟩) hmB (.slice s'.A s'.l.length s'.c)).setCell (p := ⟨m.g, 5, none⟩) hmB (.slice x.A x.l.length x.c)
      simp only at hp6 hB6
      rw [HSL2.out] at hp6 hB6
      obtain ⟨m5, hm5⟩ : ∃ m5 : PlM, m5 = { m with G := G1, P := ⟨m.P.A, m.P.c, m.P.l.set i p'⟩, S := s', N := x } := ⟨_, rfl⟩
      have hg5 : m5.g = m.g := by rw [hm5]
      have hz5 : m5.Z = m.Z := by rw [hm5]
      have hd5 : m5.d = ⟨m.d.P.set i rp, rS, m.d.T, m.d.H, m.d.Q, M⟩ := by
        rw [hm5]
        simp only [PlM.d, List.map_set, HDJ.out, HSJ.out, PlD.mk.injEq, true_and, and_true]
        rw [HXL.out]
      have HP6 : Hid (PlayAt B _ m5) := Lib.hid (by rw [hm5]; exact hp6)
      have HB6 := Lib.hid hB6
      have hjn : m.d.join i p q = ⟨m.d.P.set i rp, rS, m.d.T, zipA m.d.H q, m.d.Q.set i (q.map fun _ => 0), M⟩ := by
        unfold PlD.join
        rw [← HRR.out]
        simp only [if_true]
        rw [HRN.out]
        simp only [PlM.d] at HM ⊢
        rw [HM.out]
      have HD5 := Lib.hid hd5
      have HJN := Lib.hid hjn
      clear hp5 hp6 hB6 hd5 hjn hm5 bf HP4 HB4 HLO4 HXN4 HROW4 HNR HPH HSS VB VX VB2 VX2 VB3 HXL HM HRN HLS HNJ HSJ HDJ HSL2 HPLL HPA HPB HBW
      generalize ((V4.setCell ⟨m.g, 1, none⟩ (.slice s'.A m.S.l.length s'.c)).setCell ⟨m.g, 5, none⟩ (.slice x.A x.l.length x.c)) = V6 at *
      have hQi := HJ.out.Q
      have hlQ := HJ.out.lQ
      have hlH := HJ.out.lH
      have hH3 := HJ.out.lHS
      have HH0 : Hid (∀ k, 0 ≤ m.d.H.getD k 0 ∧ m.d.H.getD k 0 ≤ 1000000000000000) := Lib.hid HJ.out.bH
      have HQ0 : Hid (∀ k, 0 ≤ q.getD k 0 ∧ q.getD k 0 ≤ 1000000000000000) := Lib.hid HJ.out.bq
      clear HJ HP HPD HRR HNL
      go_loopw [11] (fun v wr => ∃ (k : Nat) (m6 : PlM), k ≤ m.d.H.length ∧ v = .int .i64 k ∧ m6.g = m.g ∧ m6.Z = m.Z ∧ m6.d = ⟨m.d.P.set i rp, rS, m.d.T, zipA (m.d.H.take k) (q.take k) ++ m.d.H.drop k, m.d.Q.set i ((q.take k).map (fun _ => 0) ++ q.drop k), M⟩ ∧ PlayAt B wr m6 ∧ Below B w wr) (fun v _ => m.d.H.length - (intOf v).toNat)
      case atStart =>
        refine ⟨0, m5, by omega, rfl, hg5, hz5, ?_, HP6.out, HB6.out⟩
        rw [HD5.out]
        have hqq : m.d.Q.set i q = m.d.Q := by
          have h1 : i < m.d.Q.length := by omega
          have h2 : m.d.Q[i] = q := by rw [List.getElem?_eq_getElem h1] at hQi; injection hQi
          rw [← h2]; exact List.set_getElem_self h1
        simp only [zipA, List.take_zero, List.zipWith_nil_left, List.drop_zero, List.nil_append, List.map_nil, hqq]
      case round =>
        obtain ⟨k, m6, hk, rfl, hg6, hz6, hd6, hp6, hb6⟩ := hrel
        clear HP6 HB6 HD5
        have hH6 : m6.H.l = zipA (m.d.H.take k) (q.take k) ++ m.d.H.drop k := congrArg PlD.H hd6
        have hQ6 : m6.Q.l.map Sl.l = m.d.Q.set i ((q.take k).map (fun _ => 0) ++ q.drop k) := congrArg PlD.Q hd6
        have hn6 : m6.H.l.length = m.d.H.length := by rw [hH6]; simp [zipA]; omega
        have hq6 : m6.Q.l.length = 3 := by have := congrArg List.length hQ6; simpa [hlQ] using this
        have hqi : i < m6.Q.l.length := by omega
        have hyl : m6.Q.l[i].l = (q.take k).map (fun _ => 0) ++ q.drop k := by
          have h1 : (m6.Q.l.map Sl.l)[i]? = (m.d.Q.set i ((q.take k).map (fun _ => 0) ++ q.drop k))[i]? := by rw [hQ6]
          rw [List.getElem?_map, List.getElem?_eq_getElem hqi, List.getElem?_set_self (by omega)] at h1
          simpa using h1
        obtain ⟨b0, b1, b2, b3, b4, b5, bf, bz⟩ := hp6.box.b6
        by_cases hkl : k < m.d.H.length
        · have hkl' : (k : Int) < (m.d.H.length : Int) := by omega
          have hkq : k < q.length := by omega
          have hkh : k < m6.H.l.length := by omega
          have hky : k < m6.Q.l[i].l.length := by rw [hyl]; simp; omega
          have hny : m6.Q.l[i].l.length = m.d.H.length := by rw [hyl]; simp; omega
          have hhv : m6.H.l[k] = m.d.H[k] := by
            simp only [hH6]
            rw [List.getElem_append_right (by simp [zipA]; omega)]
            simp [zipA]
            congr 1
            omega
          have hqv : m6.Q.l[i].l[k] = q[k] := by
            simp only [hyl]
            rw [List.getElem_append_right (by simp; omega)]
            simp
            congr 1
            omega
          obtain ⟨gh, hHA, _, _, hcH, hfH⟩ := hp6.H.atk ienc_k (List.getElem?_eq_getElem hkh)
          obtain ⟨gq, hQA, _, _, hcQ, _⟩ := hp6.Q.atk qenc_k (List.getElem?_eq_getElem hqi)
          obtain ⟨gy, hyA, _, _, hcy, _⟩ := (hp6.q _ (List.getElem_mem hqi)).atk ienc_k (List.getElem?_eq_getElem hky)
          have ch := hcH.c1
          have cq := hcQ.c1
          have cy := hcy.c1
          simp only [Nat.mul_one] at ch cq cy
          rw [hhv] at ch
          rw [hqv] at cy
          rw [hHA, hn6] at b3
          rw [hQA, hq6] at b4
          rw [hyA, hny] at cq
          rw [hg6] at b3 b4
          have hf := hfH k
          have e1 := HH0.out k
          have e2 := HQ0.out k
          rw [getD_at hkl] at e1
          rw [getD_at hkq] at e2
          have hzs := zipA_set hkl hkq
          have hzz := zeroA_set hkq
          have hw1 : IntKind.i64.wrap (m.d.H[k] + q[k]) = m.d.H[k] + q[k] := by rw [IntKind.wrap_i64]; omega
          have hst := hp6.stH hHA (w' := wr.setCell ⟨gh, k, none⟩ (.int .i64 (m.d.H[k] + q[k]))) (by simp) (fun c hc => setCell_off _ ⟨gh, k, none⟩ _ c hc) (l := m6.H.l.set k (m.d.H[k] + q[k])) (by simp) (by
            have h1 := hp6.H.set ienc_k hHA (List.getElem?_eq_getElem hkh) (j := 0) (y := m.d.H[k] + q[k]) (u := .int .i64 (m.d.H[k] + q[k])) (by omega) rfl
            simp only [Nat.mul_one, Nat.add_zero] at h1
            exact h1)
          rw [hH6, hzs] at hst
          have hBh : B ≤ gh := (hp6.rb (i := 4) hHA).2
          have hb7 := Below.drew (hb6.setCell (p := ⟨gh, k, none⟩) hBh (.int .i64 (m.d.H[k] + q[k])))
          have HP7 := Lib.hid hst.drew
          have HB7 := Lib.hid hb7
          have HZZ := Lib.hid hzz
          have HYL := Lib.hid hyl
          have HYA := Lib.hid hyA
          have HQA := Lib.hid hQA
          have HD6 := Lib.hid hd6
          have HNY := Lib.hid hny
          have HQ3 := Lib.hid hq6
          have hki : (i : Int) < 3 := by omega
          clear hp6 hst hb7 hzz hzs hyl hcH hcQ hcy hH6 hQ6 hhv hqv hn6 hq6 hny hHA hQA hyA hd6 hfH
          generalize m.d.H[k] = hv at *
          generalize q[k] = qv at *
          go_wp2_with fail
          refine wp_region_T (fun W => W.cell? ⟨m.g, 3, none⟩ = some (.slice (some ⟨gh, 0, none⟩) m.d.H.length m6.H.c) ∧ W.cell? ⟨gh, k, none⟩ = some (.int .i64 hv) ∧ W.cell? ⟨m.g, 4, none⟩ = some (.slice (some ⟨gq, 0, none⟩) 3 m6.Q.c) ∧ W.cell? ⟨gq, i, none⟩ = some (.slice (some ⟨gy, 0, none⟩) m.d.H.length m6.Q.l[i].c) ∧ W.cell? ⟨gy, k, none⟩ = some (.int .i64 qv)) (fun i => 24 ≤ i) (by kernel_rfl) ⟨b3, ch, b4, cq, cy⟩ (fun hHeld => ?_)
          refine qtq 0 ?_
          simp only [qsa, qsb, qsc]
          refine qtq 1 ?_
          simp only [qsa, qsb, qsc]
          refine qtq 2 ?_
          simp only [qsa, qsb, qsc]
          refine qtq 3 ?_
          simp only [qsa, qsb, qsc]
          refine qtq 4 ?_
          simp only [qsa, qsb, qsc]
          refine qtq 5 ?_
          simp only [qsa, qsb, qsc]
          refine qtq 6 ?_
          simp only [qsa, qsb, qsc]
          refine qtq 7 ?_
          simp only [qsa, qsb, qsc]
          refine qtq 8 ?_
          simp only [qsa, qsb, qsc]
          refine qtq 9 ?_
          simp only [qsa, qsb, qsc]
          refine qtq 10 ?_
          simp only [qsa, qsb, qsc]
          refine qtq 11 ?_
          simp only [qsa, qsb, qsc]
          refine qtq 12 ?_
          simp only [qsa, qsb, qsc]
          refine qtq 13 ?_
          simp only [qsa, qsb, qsc]
          refine qtq 14 ?_
          simp only [qsa, qsb, qsc]
          refine qtq 15 ?_
          simp only [qsa, qsb, qsc]
          refine qtq 16 ?_
          simp only [qsa, qsb, qsc]
          refine qtq 17 ?_
          simp only [qsa, qsb, qsc]
          refine qtq 18 ?_
          simp only [qsa, qsb, qsc]
          refine qtq 19 ?_
          simp only [qsa, qsb, qsc]
          refine qtq 20 ?_
          simp only [qsa, qsb, qsc]
          refine qtq 21 ?_
          simp only [qsa, qsb, qsc]
          refine qtq 22 ?_
          simp only [qsa, qsb, qsc]
          refine qtq 23 ?_
          simp only [qsa, qsb, qsc]
          clear hHeld
          refine wpAnyT_next (i := 24) (by kernel_rfl) rfl ?_
          go_wp2_with fail
          try simp only [QT]
          try (with_reducible refine And.intro (fun h => by simp at h) ?_)
          refine wpAnyT_done (by kernel_rfl) ?_ _
          clear b0 b1 b2 b3 b4 b5 bf bz ch cq cy hf
          generalize World.drew (wr.setCell ⟨gh, k, none⟩ (.int .i64 (hv + qv))) = W1 at *
          obtain ⟨b0, b1, b2, b3, b4, b5, bf, bz⟩ := HP7.out.box.b6
          obtain ⟨gq', hQA', _, _, hcQ, _⟩ := HP7.out.Q.atk qenc_k (i := i) (x := m6.Q.l[i]) (List.getElem?_eq_getElem hqi)
          obtain ⟨gy', hyA', _, _, hcy, hfy⟩ := (HP7.out.q m6.Q.l[i] (List.getElem_mem hqi)).atk ienc_k (i := k) (x := m6.Q.l[i].l[k]) (List.getElem?_eq_getElem hky)
          have cq := hcQ.c1
          have cy := hcy.c1
          simp only [Nat.mul_one] at cq cy b4
          rw [hyA', HNY.out] at cq
          have hf := hfy k
          rw [show m6.Q.A = some ⟨gq', 0, none⟩ from hQA', HQ3.out, hg6] at b4
          have hst := HP7.out.stq hqi hyA' (w' := W1.setCell ⟨gy', k, none⟩ (.int .i64 0)) (by simp) (fun c hc => setCell_off _ ⟨gy', k, none⟩ _ c hc) (l := m6.Q.l[i].l.set k 0) (by simp) (by
            have h1 := (HP7.out.q m6.Q.l[i] (List.getElem_mem hqi)).set ienc_k hyA' (List.getElem?_eq_getElem hky) (j := 0) (y := 0) (u := .int .i64 0) (by omega) rfl
            simp only [Nat.mul_one, Nat.add_zero] at h1
            exact h1)
          rw [HYL.out, HZZ.out] at hst
          have hBy : B ≤ gy' := (HP7.out.qb (List.getElem_mem hqi) hyA').2
          have hb8 := HB7.out.setCell (p := ⟨gy', k, none⟩) hBy (.int .i64 0)
          have HP8 := Lib.hid hst
          have HB8 := Lib.hid hb8
          clear hst hb8 hcQ hcy hQA' hyA' hfy
          go_wp2_with fail
          go_roundw
          case rel =>
            refine ⟨k + 1, _, by omega, by go_num, ?_, ?_, ?_, HP8.out, HB8.out⟩
            · exact hg6
            · exact hz6
            · have h6 := HD6.out
              simp only [PlD.mk.injEq, PlM.d] at h6 ⊢
              refine ⟨h6.1, h6.2.1, h6.2.2.1, trivial, ?_, h6.2.2.2.2.2⟩
              rw [List.map_set, h6.2.2.2.2.1, List.set_set]
          case measure => simp [intOf]; omega
        · obtain rfl : k = m.d.H.length := by omega
          have hfin : m6.d = m.d.join i p q := by
            rw [hd6, HJN.out, List.take_length, List.drop_length, hlH, List.take_length, List.drop_length, List.append_nil, List.append_nil]
          have HFIN := Lib.hid hfin
          rw [hn6, hg6] at b3
          clear hd6 hH6 hQ6 hyl hfin
          go_wp2_with fail
          go_ret
          exact ⟨by simp [Act.eval, go_sem], m6, hp6, hg6, HFIN.out, hz6, hb6⟩
theorem pjoin (B : Nat) (m : PlM) (w : World) (h : PlayAt B w m) (i : Nat) (p : PhoneD) (q : List Int) (hj : JoinOK m.d i p q) :
    Calls Try.prog 50 #[.pointer (some ⟨m.g, 0, none⟩), .int .i64 i] w fun e w' => e = .returned (.bool true) ∧ ∃ m' : PlM, PlayAt B w' m' ∧ m'.g = m.g ∧ m'.d = m.d.join i p q ∧ Below B w w' :=
  (pjoinZ B m w h i p q hj).mono fun e w' ⟨h1, m', h2, h3, h4, _, h5⟩ => ⟨h1, m', h2, h3, h4, h5⟩
end Go.Proofs.Ythnblhbdfpmolaa
