/- A play begins: the walk. -/
import Derived.Test.YthnblhbdfpmolaaPNotemxbp
namespace Go.Proofs.Ythnblhbdfpmolaa
open Go.RowKit
theorem rd_blk2 {α : Type} {k : Nat} {enc : α → List Value} (hk : ∀ x, (enc x).length = k) {W : World} {e : TypeId} {g c : Nat} {l : List α} (h : Blk W g e (l.flatMap enc).toArray) (hc : l.length ≤ c) (hm : c ≤ maxLen) : Rd (· < W.heap.size) k enc W ⟨some ⟨g, 0, none⟩, c, l⟩ := by
  refine ⟨hc, hm, fun hn => (by cases hn), fun i x hx => ⟨g, 0, rfl, h.lt, fun j u hu => ?_⟩⟩
  rw [h.cell, Nat.zero_add, List.getElem?_toArray]
  have hj : j < k := by rw [← hk x]; exact (List.getElem?_eq_some_iff.1 hu).1
  rw [flat_get hk l i j x hx hj]; exact hu
theorem dnC_flat2 (l : List Int) : (dnC l).toList = l.flatMap ienc := by
  unfold dnC
  induction l with
  | nil => rfl
  | cons x l ih => rw [List.flatMap_cons, List.map_cons]; simp only at ih ⊢; rw [← ih]; rfl
theorem own_zeros {B n : Nat} {w : World} (hB : B ≤ w.heap.size) (hn : n ≤ 3) : Own B 3 1 ienc (w.alloc (.cells (dnC (List.replicate n 0)) 3)) ⟨some ⟨w.heap.size, 0, none⟩, n, List.replicate n 0⟩ := by
  have := Own.lit (base := B) (e := 3) (k := 1) (enc := ienc) w (dnC (List.replicate n 0)) (List.replicate n 0) hB (by simp [maxLen]; omega) (dnC_flat2 _) ienc_k
  simp only [List.length_replicate] at this
  exact this
theorem ownB_ne {A : Option Addr} {n c b : Nat} (h : ∀ x, A = some x → b ≠ x.block) : some b ≠ (Value.slice A n c).ownBlock := by
  intro hc
  cases A with
  | none => simp [Value.ownBlock] at hc
  | some x =>
    have := h x rfl
    rcases x with ⟨xb, xo, xp⟩
    simp [Value.ownBlock] at hc
    simp only at this
    first | exact this hc | (split at hc <;> simp_all)
set_option maxRecDepth 100000 in
set_option maxHeartbeats 4000000 in
theorem pbegun (ss : Sl Stock) (w : World) (hr : RdStocks (· < w.heap.size) w ss) (hl : ss.l.length ≤ 3) :
    Calls Try.prog 47 #[.slice ss.A ss.l.length ss.c] w fun e w' => ∃ m : PlM, e = .returned (.pointer (some ⟨m.g, 0, none⟩)) ∧ PlayAt w.heap.size w' m ∧ m.d = ⟨(List.range 3).map (fun (i : Nat) => pZ i), ss.l.map Stock.d, ss.l.map Stock.U, List.replicate ss.l.length 0, List.replicate 3 (List.replicate ss.l.length 0), []⟩ ∧ Below w.heap.size w w' := by
  have HR := Lib.hid hr
  clear hr
  go_enter Try.func47, Try.ntmps47
  go_wp2_with (at_builtin; go_must (refine wpl_append_sl (base := w.heap.size) _ rfl (.tmp 8) (.tmp 9) _ rfl Try.underlying27 infoStock (by omega) Stock.k Stock.one ⟨some ⟨w.heap.size, 0, none⟩, 0, []⟩ ss rfl rfl (Own.lit w #[] [] (Nat.le_refl _) (by simp [maxLen]) rfl Stock.k) (HR.out.1.lt_alloc _) (by simp [maxLen]; omega) (by simp; omega) (by simp) ?_); intro A5 c5 w5 hown5 hg5 hat5; apply Hid.out)
  refine Lib.hid ?_
  simp only [List.nil_append] at hown5
  have hB5 : Below w.heap.size w w5 := Below.grown ((Below.refl _ _).alloc (Nat.le_refl _) _) hg5 (by simp) (by simp [Value.ownBlock])
  have HO5 := Lib.hid hown5
  have HB5 := Lib.hid hB5
  clear hown5 hg5 hat5 hB5
  go_wp2_with fail
  have hn0 : ss.l.length ≤ 3 := hl
  have hm0 : ∃ m : PlM, m.g = w5.heap.size ∧ PlayAt w.heap.size (w5.alloc (.cells #[.slice none 0 0, .slice A5 ss.l.length c5, .slice none 0 0, .slice none 0 0, .slice none 0 0, .slice none 0 0] 93)) m ∧ m.d = ⟨[], ss.l.map Stock.d, [], [], [], []⟩ := by
    refine ⟨⟨w5.heap.size, ⟨none, 0, []⟩, ⟨A5, c5, ss.l⟩, ⟨none, 0, []⟩, ⟨none, 0, []⟩, ⟨none, 0, []⟩, ⟨none, 0, []⟩, fun b => b < w.heap.size, ⟨none, 0, []⟩⟩, rfl, ?_, rfl⟩
    have hrow : ∀ i x, PlM.row ⟨w5.heap.size, ⟨none, 0, []⟩, ⟨A5, c5, ss.l⟩, ⟨none, 0, []⟩, ⟨none, 0, []⟩, ⟨none, 0, []⟩, ⟨none, 0, []⟩, fun b => b < w.heap.size, ⟨none, 0, []⟩⟩ i = some x → (i = 0 ∧ x = ⟨w5.heap.size, 0, none⟩) ∨ (i = 2 ∧ A5 = some x) := by
      intro i x hx
      match i, hx with
      | 0, hx => injection hx with hx; exact .inl ⟨rfl, hx.symm⟩
      | 1, hx => cases hx
      | 2, hx => exact .inr ⟨rfl, hx⟩
      | 3, hx => cases hx
      | 4, hx => cases hx
      | 5, hx => cases hx
      | _ + 6, hx => cases hx
    have hA5 : ∀ x, A5 = some x → x.block < w5.heap.size ∧ w.heap.size ≤ x.block := by
      intro x hx
      obtain ⟨g, rfl, h1, h2⟩ := HO5.out.at0 hx
      exact ⟨h2, h1⟩
    exact {
      box := Blk.new _ _ _
      lo := HB5.out.size
      P := Own.nil _ _ _ _ _
      S := HO5.out.alloc _
      T := Own.nil _ _ _ _ _
      H := Own.nil _ _ _ _ _
      Q := Own.nil _ _ _ _ _
      q := fun x hx => by cases hx
      ap := by
        intro i j hij x y hx hy
        rcases hrow i x hx with ⟨rfl, rfl⟩ | ⟨rfl, h1⟩ <;> rcases hrow j y hy with ⟨rfl, rfl⟩ | ⟨rfl, h2⟩
        · exact absurd rfl hij
        · have := (hA5 y h2).1; simp only; omega
        · have := (hA5 x h1).1; simp only; omega
        · exact absurd rfl hij
      aq := fun i x hx => by cases hx
      qq := fun i j hi => absurd hi (Nat.not_lt_zero _)
      G := by
        intro b hb
        refine ⟨by have := HB5.out.size; simp; omega, fun i x hx => ?_, fun y x hy => by cases hy⟩
        rcases hrow i x hx with ⟨_, rfl⟩ | ⟨_, h1⟩
        · have := HB5.out.size; simp only; omega
        · have := (hA5 x h1).2; omega
      rN := ⟨Rd.nil _ _ _ _, fun n hn => by cases hn⟩
      rZ := ⟨Rd.nil _ _ _ _, fun n hn => by cases hn⟩
      rP := fun p hp => by cases hp
      rS := fun s hs => (HR.out.2 s hs).keep fun b hb => (Below.heap_alloc _ _ b (Nat.lt_of_lt_of_le hb HB5.out.size)).trans (HB5.out.block b hb) }
  obtain ⟨m0, hg0, hp0, hd0⟩ := hm0
  have hb0 : Below w.heap.size w (w5.alloc (.cells #[.slice none 0 0, .slice A5 ss.l.length c5, .slice none 0 0, .slice none 0 0, .slice none 0 0, .slice none 0 0] 93)) := HB5.out.alloc HB5.out.size _
  have HP0 := Lib.hid hp0
  have HB0 := Lib.hid hb0
  have HD0 := Lib.hid hd0
  clear hp0 hb0 hd0 HO5
  generalize (w5.alloc (.cells #[.slice none 0 0, .slice A5 ss.l.length c5, .slice none 0 0, .slice none 0 0, .slice none 0 0, .slice none 0 0] 93)) = w6 at *
  generalize w5.heap.size = pg at *
  go_loopw [4, 5, 6] (fun v _ _ wr => ∃ (j : Nat) (m : PlM), j ≤ 3 ∧ v = .int .i64 j ∧ m.g = pg ∧ m.d = ⟨(List.range j).map (fun (i : Nat) => pZ i), ss.l.map Stock.d, [], [], List.replicate j (List.replicate ss.l.length 0), []⟩ ∧ PlayAt w.heap.size wr m ∧ Below w.heap.size w wr) (fun v _ _ _ => 3 - (intOf v).toNat)
  case atStart => exact ⟨0, m0, by omega, rfl, hg0, by rw [HD0.out]; rfl, HP0.out, HB0.out⟩
  case round =>
    obtain ⟨j, m, hj, rfl, hg, hd, hp, hb⟩ := hrel
    by_cases hj3 : j < 3
    · have hj3' : (j : Int) < 3 := by omega
      go_wp2_with fail
      refine (phone_new_s j wr (rngB_iff.2 (by omega))).mono ?_
      rintro e w1 ⟨p, rfl, hpd, hpr, hb1⟩
      simp only [Phone.v]
      have hp1 := hp.more hb1 (fun _ => True)
      have hr1 : RdPhone (fun b => m.G b ∨ (wr.heap.size ≤ b ∧ b < w1.heap.size ∧ True)) w1 p := hpr.mono fun b hb => .inr ⟨hb.1, hb.2, trivial⟩
      have hbw1 : Below w.heap.size w w1 := hb.trans (hb1.mono hb.size)
      have HP1 := Lib.hid hp1
      have HR1 := Lib.hid hr1
      have HBW1 := Lib.hid hbw1
      have HPD := Lib.hid hpd
      have HD := Lib.hid hd
      clear hp hb hp1 hr1 hbw1 hb1 hpr hpd hd
      go_wp2_with fail
      obtain ⟨wa, hwa⟩ : ∃ x, x = World.drew (w1.alloc (.cells #[.int .i64 p.id, .bool p.cut, .slice p.H.A p.H.l.length p.H.c, .slice p.N.A p.N.l.length p.N.c, .slice p.S.A p.S.l.length p.S.c] 33)) := ⟨_, rfl⟩
      have hm1 : ∃ m1 : PlM, m1.g = pg ∧ m1.d = m.d ∧ PlayAt w.heap.size wa m1 ∧ RdPhone m1.G wa p ∧ (∀ x, m1.P.A = some x → x.block < w1.heap.size) ∧ m1.P.l.length = j := by
        refine ⟨{ m with G := fun b => m.G b ∨ (wr.heap.size ≤ b ∧ b < w1.heap.size ∧ True) }, hg, rfl, by rw [hwa]; exact (HP1.out.alloc _).drew, ?_, fun x hx => (HP1.out.rb (i := 1) hx).1, ?_⟩
        · rw [hwa]
          exact HR1.out.keep fun b hb => Below.heap_alloc _ _ b (HP1.out.G b hb).1
        · have := congrArg (fun d => d.P.length) HD.out
          simpa [PlM.d] using this
      obtain ⟨m1, hg1, hd1, hpa, hra, hlt1, hlp⟩ := hm1
      have hlj : m1.P.l.length ≤ 3 := by omega
      clear hlp
      have hbx : Blk wa w1.heap.size 33 #[.int .i64 p.id, .bool p.cut, .slice p.H.A p.H.l.length p.H.c, .slice p.N.A p.N.l.length p.N.c, .slice p.S.A p.S.l.length p.S.c] := by rw [hwa]; exact (Blk.new _ _ _).drew
      have hbwa : Below w.heap.size w wa := by rw [hwa]; exact Below.drew (HBW1.out.alloc HBW1.out.size _)
      have hb0 := hpa.box.cell 0
      have hx5 := hbx.h5p
      rw [hg1] at hb0
      rw [hwa] at hb0 hx5
      rw [← hd1] at HD
      clear hd1
      have HPA := Lib.hid hpa
      have HRA := Lib.hid hra
      have HBX := Lib.hid hbx
      have HBWA := Lib.hid hbwa
      have HLT := Lib.hid hlt1
      clear hpa hra hbx hbwa hlt1 hg HP1 HR1
      refine wp_region_T (fun W => W.cell? ⟨pg, 0, none⟩ = some (.slice m1.P.A m1.P.l.length m1.P.c) ∧ W.cell? ⟨w1.heap.size, 0, none⟩ = some (.int .i64 p.id) ∧ W.cell? ⟨w1.heap.size, 1, none⟩ = some (.bool p.cut) ∧ W.cell? ⟨w1.heap.size, 2, none⟩ = some (.slice p.H.A p.H.l.length p.H.c) ∧ W.cell? ⟨w1.heap.size, 3, none⟩ = some (.slice p.N.A p.N.l.length p.N.c) ∧ W.cell? ⟨w1.heap.size, 4, none⟩ = some (.slice p.S.A p.S.l.length p.S.c)) (fun i => 10 ≤ i) (by kernel_rfl) ⟨hb0, hx5⟩ (fun hHeld => ?_)
      clear hb0 hx5
      rw [← hwa] at hHeld ⊢
      clear hwa
      generalize w1.heap.size = gx at *
      refine qtq 0 ?_
      simp only [qsa, qsb, qsc]
      refine qtq 1 ?_
      simp only [qsa, qsb, qsc]
      refine qtq 2 ?_
      simp only [qsa, qsb, qsc]
      refine qtq 3 ?_
      simp only [qsa, qsb, qsc]
      refine qtq 4 ?_
      simp only [qsa, qsb, qsc]
      refine qtq 5 ?_
      simp only [qsa, qsb, qsc]
      clear hHeld
      refine wpAnyT_next (i := 6) (by kernel_rfl) rfl ?_
      go_wp2_with fail
      refine And.intro ?_ ?_
      · first
        | exact ⟨kalloc _ (by have := HPA.out.box.cell 0; rw [hg1] at this; exact this), (HBX.out.alloc _).h5p⟩
        | exact fun _ => ⟨kalloc _ (by have := HPA.out.box.cell 0; rw [hg1] at this; exact this), (HBX.out.alloc _).h5p⟩
      refine wpAnyT_next (i := 7) (by kernel_rfl) rfl ?_
      refine wpl_append_sl (base := w.heap.size) _ rfl (.tmp 26) (.tmp 28) _ rfl Try.underlying90 infoPhone (by omega) Phone.k Phone.one m1.P ⟨some ⟨wa.heap.size, 0, none⟩, 1, [p]⟩ rfl rfl (HPA.out.P.alloc _) (rd_blk2 Phone.k (Blk.new _ _ _) (by simp) (by simp [maxLen])) (by simp [maxLen]; omega) (by simp; omega) (by have := HBWA.out.size; simp; omega) ?_
      intro A6 c6 w6 hown6 hg6 hat6
      have hpgP : ∀ x, m1.P.A = some x → pg ≠ x.block := fun x hx => by rw [← hg1]; exact HPA.out.ap 0 1 (by decide) _ _ rfl hx
      have hbox6 := ((HPA.out.box.alloc (.cells #[.int .i64 p.id, .bool p.cut, .slice p.H.A p.H.l.length p.H.c, .slice p.N.A p.N.l.length p.N.c, .slice p.S.A p.S.l.length p.S.c] 33)).grown hg6 (ownB_ne (by rw [hg1]; exact hpgP)))
      have hbx6 := (HBX.out.alloc (.cells #[.int .i64 p.id, .bool p.cut, .slice p.H.A p.H.l.length p.H.c, .slice p.N.A p.N.l.length p.N.c, .slice p.S.A p.S.l.length p.S.c] 33)).grown hg6 (ownB_ne (fun x hx => by have := HLT.out x hx; omega))
      have hgr := HPA.out.grP (w1 := w6) (Nat.le_trans (by simp) hg6.size) (fun b hb hne => (hg6.block b (by simp; omega) (ownB_ne hne)).trans (Below.heap_alloc _ _ b hb)) hown6 (fun x hx => by
        rcases hat6 with h | h
        · exact .inl (h ▸ hx)
        · rw [h] at hx; injection hx with hx; subst hx; right; simp) (fun y hy => by
        rcases List.mem_append.1 hy with hy | hy
        · exact HPA.out.rP y hy
        · rw [List.mem_singleton.1 hy]; exact HRA.out)
      have hb6 : Below w.heap.size w w6 := Below.grown (HBWA.out.alloc HBWA.out.size _) hg6 (by have := HBWA.out.size; simp; omega) (by
        intro q' hq'
        rcases HPA.out.P.form with ⟨hA, _⟩ | ⟨g, hA, h1, _⟩
        · rw [hA] at hq'; cases hq'
        · rw [hA] at hq'; simp only [Value.ownBlock, Option.some.injEq] at hq'; omega)
      have hb6' := hb6.setCell (p := ⟨pg, 0, none⟩) (by rw [← hg1]; exact HPA.out.lo) (.slice A6 (m1.P.l ++ [p]).length c6)
      rw [hg1] at hgr
      simp only [List.length_append, List.length_singleton] at hgr hb6'
      obtain ⟨b0, b1, b2, b3, b4, b5, bf, bz⟩ := hbox6.b6
      rw [hg1] at b0 b1 b2 b3 b4 b5 bf
      have HGR := Lib.hid hgr
      have HB6 := Lib.hid hb6'
      have hHeld := And.intro b0 hbx6.h5p
      clear hgr hb6 hb6' hown6 hg6 hat6 hbox6 hbx6
      go_wp2_with fail
      refine And.intro ?_ ?_
      · first
        | exact hHeld
        | exact fun _ => hHeld
      refine wpAnyT_next (i := 8) (by kernel_rfl) rfl ?_
      go_wp2_with fail
      refine And.intro ?_ ?_
      · first
        | exact hHeld
        | exact fun _ => hHeld
      refine wpAnyT_next (i := 9) (by kernel_rfl) rfl ?_
      go_wp2_with fail
      refine And.intro ?_ ?_
      · first
        | exact hHeld
        | exact fun _ => hHeld
      clear hHeld
      refine wpAnyT_next (i := 10) (by kernel_rfl) rfl ?_
      go_wp2_with fail
      try simp only [QT]
      try (with_reducible refine And.intro (fun h => by simp at h) ?_)
      refine wpAnyT_done (by kernel_rfl) ?_ _
      clear b0 b1 b2 b3 b4 b5 bf bz hpgP
      have hm2 : ∃ m2 : PlM, m2.g = pg ∧ PlayAt w.heap.size (w6.setCell ⟨pg, 0, none⟩ (.slice A6 (m1.P.l.length + 1) c6)) m2 ∧ m2.d = ⟨(List.range (j + 1)).map (fun (i : Nat) => pZ i), ss.l.map Stock.d, [], [], List.replicate j (List.replicate ss.l.length 0), []⟩ := by
        refine ⟨_, ?_, HGR.out, ?_⟩
        · rfl
        · have h6 := HD.out
          simp only [PlD.mk.injEq, PlM.d] at h6 ⊢
          refine ⟨?_, h6.2⟩
          rw [List.map_append, h6.1, List.range_succ, List.map_append]
          simp [HPD.out]
      obtain ⟨m2, hg2, hp2, hd2⟩ := hm2
      have HP2 := Lib.hid hp2
      have HD2 := Lib.hid hd2
      clear hp2 hd2 HGR HPA HRA HBX HLT HD HPD HBWA HBW1
      generalize w6.setCell ⟨pg, 0, none⟩ (.slice A6 (m1.P.l.length + 1) c6) = wb at *
      have hmk := make_intsP ss.l.length (by omega)
      have hb4 := HP2.out.box.cell 4
      have hql : m2.Q.l.length ≤ 3 := by
        have := congrArg (fun d => d.Q.length) HD2.out
        simp [PlM.d] at this
        omega
      rw [hg2] at hb4
      go_wp2_with fail
      refine wp_region_T (fun W => W.cell? ⟨pg, 4, none⟩ = some (.slice m2.Q.A m2.Q.l.length m2.Q.c)) (fun i => 12 ≤ i) (by kernel_rfl) hb4 (fun hHeld => ?_)
      refine qtq 0 ?_
      simp only [qsa, qsb, qsc]
      refine qtq 1 ?_
      simp only [qsa, qsb, qsc]
      refine qtq 2 ?_
      simp only [qsa, qsb, qsc]
      refine qtq 3 ?_
      simp only [qsa, qsb, qsc]
      refine qtq 4 ?_
      simp only [qsa, qsb, qsc]
      refine qtq 5 ?_
      simp only [qsa, qsb, qsc]
      refine qtq 6 ?_
      simp only [qsa, qsb, qsc]
      clear hHeld
      obtain ⟨wc, hwc⟩ : ∃ x, x = World.drew wb := ⟨_, rfl⟩
      have HPC : Hid (PlayAt w.heap.size wc m2) := Lib.hid (by rw [hwc]; exact HP2.out.drew)
      have HBC : Hid (Below w.heap.size w wc) := Lib.hid (by rw [hwc]; exact Below.drew HB6.out)
      rw [← hwc]
      clear hwc hb4
      have hc4 := HPC.out.box.cell 4
      rw [hg2] at hc4
      refine wpAnyT_next (i := 7) (by kernel_rfl) rfl ?_
      go_wp2_with fail
      refine And.intro ?_ ?_
      · first
        | exact kalloc _ hc4
        | exact fun _ => kalloc _ hc4
      refine wpAnyT_next (i := 8) (by kernel_rfl) rfl ?_
      go_wp2_with fail
      refine And.intro ?_ ?_
      · first
        | exact kalloc _ (kalloc _ hc4)
        | exact fun _ => kalloc _ (kalloc _ hc4)
      clear hmk
      have hwz : w.heap.size ≤ wc.heap.size := HBC.out.size
      have hoy := own_zeros (B := w.heap.size) (n := ss.l.length) hwz hl
      have HOY := Lib.hid hoy
      clear hoy
      refine wpAnyT_next (i := 9) (by kernel_rfl) rfl ?_
      refine wpl_append_sl (base := w.heap.size) _ rfl (.tmp 36) (.tmp 40) _ rfl Try.underlying91 infoRow (by omega) qenc_k qenc_one m2.Q ⟨some ⟨wc.heap.size + 1, 0, none⟩, 1, [⟨some ⟨wc.heap.size, 0, none⟩, ss.l.length, List.replicate ss.l.length 0⟩]⟩ rfl rfl ((HPC.out.Q.alloc _).alloc _) (rd_blk2 qenc_k (by
        have := Blk.new (wc.alloc (.cells (dnC (List.replicate ss.l.length 0)) 3)) 24 #[.slice (some ⟨wc.heap.size, 0, none⟩) ss.l.length ss.l.length]
        simp only [World.size_alloc] at this
        simpa [qenc] using this) (by simp) (by simp [maxLen])) (by simp [maxLen]; omega) (by simp; omega) (by simp; omega) ?_
      intro A7 c7 w7 hown7 hg7 hat7
      have hpgQ : ∀ x, m2.Q.A = some x → pg ≠ x.block := fun x hx => by rw [← hg2]; exact HPC.out.ap 0 5 (by decide) _ _ rfl hx
      have hQlt : ∀ x, m2.Q.A = some x → x.block < wc.heap.size := fun x hx => (HPC.out.rb (i := 5) hx).1
      have hbox7 := ((HPC.out.box.alloc (.cells (dnC (List.replicate ss.l.length 0)) 3)).alloc (.cells #[.slice (some ⟨wc.heap.size, 0, none⟩) ss.l.length ss.l.length] 24)).grown hg7 (ownB_ne (by rw [hg2]; exact hpgQ))
      have hgr := HPC.out.grQ (w1 := w7) (y := ⟨some ⟨wc.heap.size, 0, none⟩, ss.l.length, List.replicate ss.l.length 0⟩) (gy := wc.heap.size) (Nat.le_trans (by simp; omega) hg7.size) (fun b hb hne => (hg7.block b (by simp; omega) (ownB_ne hne)).trans ((Below.heap_alloc _ _ b (by simp; omega)).trans (Below.heap_alloc _ _ b hb))) rfl (Nat.le_refl _) hown7 ((HOY.out.alloc _).kept hg7 (.inr (by
        intro hc
        rcases HPC.out.Q.form with ⟨hA, _⟩ | ⟨g, hA, _, h2, _⟩
        · rw [hA] at hc; simp [Value.ownBlock] at hc
        · rw [hA] at hc; simp only [Value.ownBlock, Option.some.injEq] at hc; omega))) (fun x hx => by
        rcases hat7 with h | h
        · exact .inl (h ▸ hx)
        · rw [h] at hx; injection hx with hx; subst hx; right; simp; omega) (fun x hx => by
        rcases hat7 with h | h
        · have := hQlt x (h ▸ hx); omega
        · rw [h] at hx; injection hx with hx; subst hx; simp; omega)
      have hb7 : Below w.heap.size w w7 := Below.grown ((HBC.out.alloc hwz _).alloc (by simp; omega) _) hg7 (by simp; omega) (by
        intro q' hq'
        rcases HPC.out.Q.form with ⟨hA, _⟩ | ⟨g, hA, h1, _⟩
        · rw [hA] at hq'; cases hq'
        · rw [hA] at hq'; simp only [Value.ownBlock, Option.some.injEq] at hq'; omega)
      have hb7' := hb7.setCell (p := ⟨pg, 4, none⟩) (by rw [← hg2]; exact HPC.out.lo) (.slice A7 (m2.Q.l ++ [(⟨some ⟨wc.heap.size, 0, none⟩, ss.l.length, List.replicate ss.l.length 0⟩ : Sl Int)]).length c7)
      rw [hg2] at hgr
      simp only [List.length_append, List.length_singleton] at hgr hb7'
      obtain ⟨b0, b1, b2, b3, b4, b5, bf, bz⟩ := hbox7.b6
      rw [hg2] at b0 b1 b2 b3 b4 b5 bf
      have HGR := Lib.hid hgr
      have HB7 := Lib.hid hb7'
      clear hgr hb7 hb7' hown7 hg7 hat7 hbox7 hpgQ hQlt hc4
      go_wp2_with fail
      refine And.intro ?_ ?_
      · first
        | exact b4
        | exact fun _ => b4
      have hHeld := b4
      refine wpAnyT_next (i := 10) (by kernel_rfl) rfl ?_
      go_wp2_with fail
      refine And.intro ?_ ?_
      · first
        | exact hHeld
        | exact fun _ => hHeld
      refine wpAnyT_next (i := 11) (by kernel_rfl) rfl ?_
      go_wp2_with fail
      refine And.intro ?_ ?_
      · first
        | exact hHeld
        | exact fun _ => hHeld
      clear hHeld
      refine wpAnyT_next (i := 12) (by kernel_rfl) rfl ?_
      go_wp2_with fail
      try simp only [QT]
      try (with_reducible refine And.intro (fun h => by simp at h) ?_)
      refine wpAnyT_done (by kernel_rfl) ?_ _
      clear b0 b1 b2 b3 b4 b5 bf bz
      have hm3 : ∃ m3 : PlM, m3.g = pg ∧ PlayAt w.heap.size (w7.setCell ⟨pg, 4, none⟩ (.slice A7 (m2.Q.l.length + 1) c7)) m3 ∧ m3.d = ⟨(List.range (j + 1)).map (fun (i : Nat) => pZ i), ss.l.map Stock.d, [], [], List.replicate (j + 1) (List.replicate ss.l.length 0), []⟩ := by
        refine ⟨_, ?_, HGR.out, ?_⟩
        · rfl
        · have h6 := HD2.out
          simp only [PlD.mk.injEq, PlM.d] at h6 ⊢
          refine ⟨h6.1, h6.2.1, h6.2.2.1, h6.2.2.2.1, ?_, h6.2.2.2.2.2⟩
          rw [List.map_append, h6.2.2.2.2.1, List.replicate_succ']
          simp
      obtain ⟨m3, hg3, hp3, hd3⟩ := hm3
      have HP3 := Lib.hid hp3
      have HD3 := Lib.hid hd3
      clear hp3 hd3 HGR HPC HBC HOY HD2 HP2
      generalize w7.setCell ⟨pg, 4, none⟩ (.slice A7 (m2.Q.l.length + 1) c7) = wd at *
      go_wp2_with fail
      go_roundw
      case rel => exact ⟨j + 1, m3, by omega, by go_num, hg3, HD3.out, HP3.out, HB7.out⟩
      case measure => simp [intOf]; omega
    · obtain rfl : j = 3 := by omega
      have HPR := Lib.hid hp
      have HBR := Lib.hid hb
      have HDR := Lib.hid hd
      clear hp hb hd
      clear HP0 HB0 HD0 hg0 m0
      go_wp2_with fail
      clear HB5
      rw [show ((3 : Nat) : Int) = 3 from rfl]
      go_loopw [7] (fun v wr => ∃ (k : Nat) (m : PlM), k ≤ ss.l.length ∧ v = .int .i64 k ∧ m.g = pg ∧ m.d = ⟨(List.range 3).map (fun (i : Nat) => pZ i), ss.l.map Stock.d, (ss.l.take k).map Stock.U, [], List.replicate 3 (List.replicate ss.l.length 0), []⟩ ∧ PlayAt w.heap.size wr m ∧ Below w.heap.size w wr) (fun v _ => ss.l.length - (intOf v).toNat)
      case atStart => exact ⟨0, m, by omega, rfl, hg, by rw [HDR.out]; rfl, HPR.out, HBR.out⟩
      case round =>
        obtain ⟨k, m4, hk, rfl, hg4, hd4, hp4, hb4⟩ := hrel
        clear HPR HBR HDR
        have hmk := make_intsP ss.l.length (by omega)
        by_cases hkl : k < ss.l.length
        · have hkl' : (k : Int) < (ss.l.length : Int) := by omega
          obtain ⟨sb, so, hSA, hF, hcl⟩ := HR.out.1.at1 hkl
          obtain ⟨c0, c1, c2⟩ := Cells.c3 (hcl.keep (hb4.block sb hF))
          have htk : (ss.l.take (k + 1)).map Stock.U = (ss.l.take k).map Stock.U ++ [ss.l[k].U] := by
            rw [List.take_succ_eq_append_getElem hkl, List.map_append]; rfl
          have hb2 := hp4.box.cell 2
          rw [hg4] at hb2
          have htl : m4.T.l.length ≤ 3 := by
            have := congrArg (fun d => d.T.length) hd4
            simp [PlM.d] at this
            omega
          have HTK := Lib.hid htk
          have HSA := Lib.hid hSA
          have HP4 := Lib.hid hp4
          have HD4 := Lib.hid hd4
          have HB4 := Lib.hid hb4
          clear hcl htk hmk c0 c2 hp4 hd4 hb4
          generalize ss.l[k].U = su at *
          go_wp2_with fail
          obtain ⟨wa, hwa⟩ : ∃ x, x = World.drew wr := ⟨_, rfl⟩
          have HPA : Hid (PlayAt w.heap.size wa m4) := Lib.hid (by rw [hwa]; exact HP4.out.drew)
          have HBA : Hid (Below w.heap.size w wa) := Lib.hid (by rw [hwa]; exact Below.drew HB4.out)
          have d2 : wa.cell? ⟨pg, 2, none⟩ = some (.slice m4.T.A m4.T.l.length m4.T.c) := by rw [hwa]; exact hb2
          have d1 : wa.cell? ⟨sb, so + k * 3 + 1, none⟩ = some (.int .i64 su) := by rw [hwa]; exact c1
          rw [HSA.out]
          refine wp_region_T (fun W => W.cell? ⟨pg, 2, none⟩ = some (.slice m4.T.A m4.T.l.length m4.T.c) ∧ W.cell? ⟨sb, so + k * 3 + 1, none⟩ = some (.int .i64 su)) (fun i => 14 ≤ i) (by kernel_rfl) ⟨hb2, c1⟩ (fun hHeld => ?_)
          rw [← hwa] at hHeld ⊢
          clear hwa hb2 c1
          refine qtq 0 ?_
          simp only [qsa, qsb, qsc]
          refine qtq 1 ?_
          simp only [qsa, qsb, qsc]
          refine qtq 2 ?_
          simp only [qsa, qsb, qsc]
          refine qtq 3 ?_
          simp only [qsa, qsb, qsc]
          refine qtq 4 ?_
          simp only [qsa, qsb, qsc]
          refine qtq 5 ?_
          simp only [qsa, qsb, qsc]
          refine qtq 6 ?_
          simp only [qsa, qsb, qsc]
          refine qtq 7 ?_
          simp only [qsa, qsb, qsc]
          refine qtq 8 ?_
          simp only [qsa, qsb, qsc]
          refine qtq 9 ?_
          simp only [qsa, qsb, qsc]
          clear hHeld
          refine wpAnyT_next (i := 10) (by kernel_rfl) rfl ?_
          go_wp2_with fail
          refine And.intro ?_ ?_
          · first
            | exact ⟨kalloc _ d2, kalloc _ d1⟩
            | exact fun _ => ⟨kalloc _ d2, kalloc _ d1⟩
          refine wpAnyT_next (i := 11) (by kernel_rfl) rfl ?_
          refine wpl_append_sl (base := w.heap.size) _ rfl (.tmp 54) (.tmp 60) _ rfl Try.underlying24 infoInt (by omega) ienc_k ienc_one m4.T ⟨some ⟨wa.heap.size, 0, none⟩, 1, [su]⟩ rfl rfl (HPA.out.T.alloc _) (rdOne (Blk.new _ _ _)) (by simp [maxLen]; omega) (by simp; omega) (by have := HBA.out.size; simp; omega) ?_
          intro A8 c8 w8 hown8 hg8 hat8
          have hpgT : ∀ x, m4.T.A = some x → pg ≠ x.block := fun x hx => by rw [← hg4]; exact HPA.out.ap 0 3 (by decide) _ _ rfl hx
          have hbox8 := (HPA.out.box.alloc (.cells #[.int .i64 su] 3)).grown hg8 (ownB_ne (by rw [hg4]; exact hpgT))
          have hsne : ∀ x, m4.T.A = some x → sb ≠ x.block := fun x hx => by
            have := (HPA.out.rb (i := 3) hx).2
            omega
          have ds : w8.cell? ⟨sb, so + k * 3 + 1, none⟩ = some (.int .i64 su) := by
            have hlt : sb < wa.heap.size := World.block_lt_of_cell? wa _ d1
            exact (World.cell?_of_block (w := wa.alloc (.cells #[.int .i64 su] 3)) (hg8.block sb (by simp; omega) (ownB_ne hsne))).trans (kalloc _ d1)
          have hgr := HPA.out.grT (w1 := w8) (Nat.le_trans (by simp) hg8.size) (fun b hb hne => (hg8.block b (by simp; omega) (ownB_ne hne)).trans (Below.heap_alloc _ _ b hb)) hown8 (fun x hx => by
            rcases hat8 with h | h
            · exact .inl (h ▸ hx)
            · rw [h] at hx; injection hx with hx; subst hx; right; simp)
          have hb8 : Below w.heap.size w w8 := Below.grown (HBA.out.alloc HBA.out.size _) hg8 (by have := HBA.out.size; simp; omega) (by
            intro q' hq'
            rcases HPA.out.T.form with ⟨hA, _⟩ | ⟨g, hA, h1, _⟩
            · rw [hA] at hq'; cases hq'
            · rw [hA] at hq'; simp only [Value.ownBlock, Option.some.injEq] at hq'; omega)
          have hb8' := hb8.setCell (p := ⟨pg, 2, none⟩) (by rw [← hg4]; exact HPA.out.lo) (.slice A8 (m4.T.l ++ [su]).length c8)
          rw [hg4] at hgr
          simp only [List.length_append, List.length_singleton] at hgr hb8'
          obtain ⟨b0, b1, b2, b3, b4, b5, bf, bz⟩ := hbox8.b6
          rw [hg4] at b0 b1 b2 b3 b4 b5 bf
          have HGR := Lib.hid hgr
          have HB8 := Lib.hid hb8'
          have hHeld := And.intro b2 ds
          clear hgr hb8 hb8' hown8 hg8 hat8 hbox8 hpgT hsne
          go_wp2_with fail
          refine And.intro ?_ ?_
          · first
            | exact hHeld
            | exact fun _ => hHeld
          refine wpAnyT_next (i := 12) (by kernel_rfl) rfl ?_
          go_wp2_with fail
          refine And.intro ?_ ?_
          · first
            | exact hHeld
            | exact fun _ => hHeld
          refine wpAnyT_next (i := 13) (by kernel_rfl) rfl ?_
          go_wp2_with fail
          refine And.intro ?_ ?_
          · first
            | exact hHeld
            | exact fun _ => hHeld
          clear hHeld
          refine wpAnyT_next (i := 14) (by kernel_rfl) rfl ?_
          go_wp2_with fail
          try simp only [QT]
          try (with_reducible refine And.intro (fun h => by simp at h) ?_)
          refine wpAnyT_done (by kernel_rfl) ?_ _
          clear b0 b1 b2 b3 b4 b5 bf bz d1 d2 ds
          have hm5 : ∃ m5 : PlM, m5.g = pg ∧ PlayAt w.heap.size (w8.setCell ⟨pg, 2, none⟩ (.slice A8 (m4.T.l.length + 1) c8)) m5 ∧ m5.d = ⟨(List.range 3).map (fun (i : Nat) => pZ i), ss.l.map Stock.d, (ss.l.take (k + 1)).map Stock.U, [], List.replicate 3 (List.replicate ss.l.length 0), []⟩ := by
            refine ⟨_, ?_, HGR.out, ?_⟩
            · rfl
            · have h6 := HD4.out
              simp only [PlD.mk.injEq, PlM.d] at h6 ⊢
              refine ⟨h6.1, h6.2.1, ?_, h6.2.2.2⟩
              rw [h6.2.2.1, HTK.out]
          obtain ⟨m5, hg5, hp5, hd5⟩ := hm5
          have HP5 := Lib.hid hp5
          have HD5 := Lib.hid hd5
          clear hp5 hd5 HGR HPA HBA HP4 HB4 HD4
          generalize w8.setCell ⟨pg, 2, none⟩ (.slice A8 (m4.T.l.length + 1) c8) = we at *
          go_wp2_with fail
          rw [← HSA.out]
          go_roundw
          case rel => exact ⟨k + 1, m5, by omega, by go_num, hg5, HD5.out, HP5.out, HB8.out⟩
          case measure => simp [intOf]; omega
        · obtain rfl : k = ss.l.length := by omega
          have hwz : w.heap.size ≤ wr.heap.size := hb4.size
          have hgh := hp4.grH (w1 := wr.alloc (.cells (dnC (List.replicate ss.l.length 0)) 3)) (by simp) (fun b hb _ => Below.heap_alloc _ _ b hb) (own_zeros hwz hl) (fun x hx => by injection hx with hx; subst hx; right; simp)
          have hb9 := (hb4.alloc hwz (.cells (dnC (List.replicate ss.l.length 0)) 3)).setCell (p := ⟨pg, 3, none⟩) (by rw [← hg4]; exact hp4.lo) (.slice (some ⟨wr.heap.size, 0, none⟩) ss.l.length ss.l.length)
          obtain ⟨b0, b1, b2, b3, b4, b5, bf, bz⟩ := (hp4.box.alloc (.cells (dnC (List.replicate ss.l.length 0)) 3)).b6
          rw [hg4] at b0 b1 b2 b3 b4 b5 bf hgh
          simp only [List.length_replicate] at hgh
          have hdd : PlM.d { m4 with g := pg, H := ⟨some ⟨wr.heap.size, 0, none⟩, ss.l.length, List.replicate ss.l.length 0⟩ } = ⟨(List.range 3).map (fun (i : Nat) => pZ i), ss.l.map Stock.d, ss.l.map Stock.U, List.replicate ss.l.length 0, List.replicate 3 (List.replicate ss.l.length 0), []⟩ := by
            have h6 := hd4
            rw [List.take_length] at h6
            simp only [PlD.mk.injEq, PlM.d] at h6 ⊢
            exact ⟨h6.1, h6.2.1, h6.2.2.1, trivial, h6.2.2.2.2⟩
          have HGH := Lib.hid hgh
          have HDD := Lib.hid hdd
          have HB9 := Lib.hid hb9
          clear hgh hdd hb9 hp4 hd4 hb4 b0 b1 b2 b4 b5
          go_wp2_with fail
          go_ret
          exact ⟨_, by simp [Act.eval, go_sem], HGH.out, HDD.out, HB9.out⟩
end Go.Proofs.Ythnblhbdfpmolaa
