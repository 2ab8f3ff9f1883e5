/- The walk of PhoneNotes, from what a play keeps. -/
import Derived.Test.YthnblhbdfpmolaaPNotemxbu
import Derived.Test.YthnblhbdfpmolaaPNotemxbd
namespace Go.Proofs.Ythnblhbdfpmolaa
open Go.RowKit
theorem PlayAt.setZ {B : Nat} {w : World} {m : PlM} (h : PlayAt B w m) {s : Sl Note} (hs : RdNotes m.G w s) : PlayAt B w { m with Z := s } :=
  { box := h.box, lo := h.lo, P := h.P, S := h.S, T := h.T, H := h.H, Q := h.Q, q := h.q, ap := h.ap, aq := h.aq, qq := h.qq, G := h.G, rN := h.rN, rZ := hs, rP := h.rP, rS := h.rS }
set_option maxRecDepth 100000 in
set_option maxHeartbeats 8000000 in
theorem phonenotes (I : Nat → PlD → Prop) (E : Nat → PlD → List NoteD → Prop) (hI : Plays I) (hE : Ends I E) (ss : Sl Stock) (ol : Sl OpE) (w : World) (hs : RdStocks (· < w.heap.size) w ss) (ho : Rd (· < w.heap.size) 5 OpE.enc w ol) :
    Calls Try.prog 11 #[.slice ss.A ss.l.length ss.c, .slice ol.A ol.l.length ol.c] w fun e w' => e = .returned (.bool true) ∧ Below w.heap.size w w' := by
  have HS := Lib.hid hs
  have HO := Lib.hid ho
  have HI := Lib.hid hI
  have HE := Lib.hid hE
  clear hs ho hI hE
  go_enter Try.func11, Try.ntmps11
  go_wp2_with fail
  refine (small43 _).mono ?_
  rintro e w1 ⟨rfl, hb1⟩
  go_wp2_with fail
  refine (pplain ss w1 (HS.out.later hb1 (Nat.le_refl _))).mono ?_
  rintro e w2 ⟨⟨f1, rfl, hf1⟩, hb2⟩
  have hB2 : Below w.heap.size w w2 := hb1.trans (hb2.mono hb1.size)
  clear hb1 hb2
  rcases f1 with _ | _
  · clear hf1
    go_wp2_with fail
    go_ret
    exact ⟨rfl, hB2⟩
  obtain ⟨hl3, hpl⟩ := hf1 rfl
  have HPLN := Lib.hid hpl
  clear hf1 hpl
  by_cases h40 : (40 : Int) < ol.l.length
  · go_wp2_with fail
    go_ret
    exact ⟨rfl, hB2⟩
  have h40' : ol.l.length ≤ 40 := by omega
  go_wp2_with fail
  refine (pbegun ss w2 (HS.out.later hB2 (Nat.le_refl _)) hl3).mono ?_
  rintro e w3 ⟨m0, rfl, hp0, hd0, hb3⟩
  have hB3 : Below w.heap.size w w3 := hB2.trans (hb3.mono hB2.size)
  have hi0 : I 0 m0.d := by
    rw [hd0]
    have := HI.out.start (ss.l.map Stock.d) (by simpa using hl3) (fun s hs => by
      obtain ⟨x, hx, rfl⟩ := List.mem_map.1 hs
      exact HPLN.out x hx)
    unfold begunD at this
    simp only [List.map_map, List.length_map] at this
    exact this
  have HP0 := Lib.hid hp0
  have HI0 := Lib.hid hi0
  have HB3 := Lib.hid hB3
  have hBw : w.heap.size ≤ w2.heap.size := hB2.size
  clear hp0 hd0 hi0 hb3 hB2 hB3
  have hg0 : m0.g = m0.g := rfl
  generalize hpg : m0.g = pg at *
  have HPG := Lib.hid hpg
  clear hpg hg0
  go_wp2_with fail
  go_loopw [7] (fun v wr => ∃ (k : Nat) (m : PlM), k ≤ ol.l.length ∧ v = .int .i64 k ∧ m.g = pg ∧ PlayAt w2.heap.size wr m ∧ I k m.d ∧ Below w.heap.size w wr) (fun v _ => ol.l.length - (intOf v).toNat)
  case atStart => exact ⟨0, m0, by omega, rfl, HPG.out, HP0.out, HI0.out, HB3.out⟩
  case round =>
    obtain ⟨k, m, hk, rfl, hg, hp, hi, hb⟩ := hrel
    clear HP0 HI0 HB3 HPG
    by_cases hkl : k < ol.l.length
    · have hkl' : (k : Int) < (ol.l.length : Int) := by omega
      obtain ⟨ob, oo, hOA, hF, hcl⟩ := HO.out.at1 hkl
      obtain ⟨c0, c1, c2, c3, c4⟩ := Cells.c5 (hcl.keep (hb.block ob hF))
      generalize ol.l[k] = x at *
      obtain ⟨kd, pn, sn, un, tm⟩ := x
      simp only at c0 c1 c2 c3 c4
      have hdo := pdo w2.heap.size m wr hp kd pn sn un tm (fun i k' p q s h1 h2 h3 => ⟨(HI.out.ok hi (by omega) i k' p q s h1 h2 h3).1, HI.out.jok hi (by omega) i p q h1 h2, (HI.out.ok hi (by omega) i k' p q s h1 h2 h3).2⟩) (HI.out.lP hi) (HI.out.fine hi).m
      have hia := HI.out.act hi (by omega) kd pn sn un tm
      rw [hg] at hdo
      have HIA := Lib.hid hia
      have HOA := Lib.hid hOA
      rw [hOA]
      clear hcl hia hp hi hOA
      go_wp2_with fail
      refine hdo.mono ?_
      rintro e w4 ⟨rfl, m', hp', hg', hd', hb'⟩
      have hb4 : Below w.heap.size w w4 := hb.trans (hb'.mono (by omega))
      rw [← hd'] at HIA
      have HP' := Lib.hid hp'
      clear hdo hb' hd' hp' c0 c1 c2 c3 c4
      go_wp2_with fail
      go_roundw
      case rel => exact ⟨k + 1, m', by omega, by go_num, hg', HP'.out, HIA.out, hb4⟩
      case measure => simp [intOf]; omega
    · obtain rfl : k = ol.l.length := by omega
      have HPR := Lib.hid hp
      have HIR := Lib.hid hi
      have HBR := Lib.hid hb
      clear hp hi hb
      go_wp2_with fail
      go_loopw [8, 9, 10, 11, 12, 13, 14] (fun bv v _ _ _ _ _ wr => ∃ (j : Nat) (m : PlM), j ≤ 3 ∧ v = .int .i64 ((j : Int) - 1) ∧ bv = .slice m.Z.A m.Z.l.length m.Z.c ∧ m.g = pg ∧ PlayAt w2.heap.size wr m ∧ E j m.d (m.Z.l.map Note.d) ∧ Below w.heap.size w wr) (fun _ v _ _ _ _ _ _ => (intOf v + 1).toNat)
      case atStart => exact ⟨3, { m with Z := ⟨none, 0, []⟩ }, by omega, rfl, rfl, hg, HPR.out.setZ ⟨Rd.nil _ _ _ _, fun n hn => by cases hn⟩, HE.out.e0 HIR.out h40', HBR.out⟩
      case round =>
        obtain ⟨j1, m4, hj, rfl, rfl, hg4, hp, he, hb⟩ := hrel
        clear HPR HIR HBR hg
        rcases j1 with _ | j
        · rw [show ((0 : Nat) : Int) - 1 = -1 from rfl]
          obtain ⟨hli, hor, hln⟩ := HE.out.fin he
          have hln2 : m4.N.l.length ≤ 10000 := by simpa [PlM.d] using hln
          have hrl := rlists m4.Z m4.N wr (hp.rZ.mono fun b hb => (hp.G b hb).1) (hp.rN.mono fun b hb => (hp.G b hb).1)
          rw [show listsN (m4.Z.l.map Note.d) (m4.N.l.map Note.d) = true from hli] at hrl
          have b5 := hp.box.cell 5
          rw [hg4] at b5
          simp only [List.getElem?_toArray, List.getElem?_cons_zero, List.getElem?_cons_succ] at b5
          have HP4 := Lib.hid hp
          have HB4 := Lib.hid hb
          have HOR := Lib.hid hor
          clear hli hor hp hb he hj
          go_wp2_with fail
          refine hrl.mono ?_
          clear hrl b5
          rintro e w8 ⟨rfl, hb8⟩
          have hp8 := HP4.out.below hb8
          have hod := morder m4.N w8 (hp8.rN.mono fun b hb => (hp8.G b hb).1)
          have hok : OrdOK (m4.N.l.map Note.d) (ordN (m4.N.l.map Note.d)).1 := ord_ok HOR.out
          have hoz : (ordN (m4.N.l.map Note.d)).2 = 0 := HOR.out
          generalize ordN (m4.N.l.map Note.d) = OO at *
          obtain ⟨O, OE⟩ := OO
          simp only at hok hoz
          subst hoz
          have b5 := hp8.box.cell 5
          rw [hg4] at b5
          simp only [List.getElem?_toArray, List.getElem?_cons_zero, List.getElem?_cons_succ] at b5
          have HP8 := Lib.hid hp8
          have HOK := Lib.hid hok
          have hB8 : Below w.heap.size w w8 := HB4.out.trans (hb8.mono HB4.out.size)
          clear hp8 hok hb8 HP4 HB4 HOR
          go_wp2_with fail
          refine hod.mono ?_
          clear hod b5
          rintro e w9 ⟨⟨xA, xc, xl⟩, rfl, hx, hrx, hb9⟩
          simp only at hx
          subst hx
          have hxl : (natI O).length = m4.N.l.length := by have := HOK.out.len; simpa [natI] using this
          simp only [hxl]
          have hp9 := HP8.out.below hb9
          have hB9 : Below w.heap.size w w9 := hB8.trans (hb9.mono hB8.size)
          have b5 := hp9.box.cell 5
          rw [hg4] at b5
          simp only [List.getElem?_toArray, List.getElem?_cons_zero, List.getElem?_cons_succ] at b5
          have HP9 := Lib.hid hp9
          have HX : Hid (Rd (fun b => b < w9.heap.size) 1 ienc w9 ⟨xA, xc, natI O⟩) := Lib.hid (hrx.mono fun b hb => hb.2)
          have HB9 := Lib.hid hB9
          clear hp9 hrx hb9 hB8 hB9 HP8
          have hmk := make_zl12
          go_wp2_with fail
          clear hmk b5
          have hol : O.length = m4.N.l.length := by have := HOK.out.len; simpa using this
          go_loopw [18, 19, 20] (fun i _ _ wr2 => ∃ (t : Nat) (dn : List Int), t ≤ O.length ∧ i = .int .i64 t ∧ OInv (m4.N.l.map Note.d) dn (O.take t) ∧ Blk wr2 w9.heap.size 3 (dnC dn) ∧ Below w9.heap.size w9 wr2) (fun i _ _ _ => O.length - (intOf i).toNat)
          case atStart => exact ⟨0, zl12, by omega, rfl, by rw [List.take_zero]; exact OInv.start HOK.out.whole, Blk.new _ _ _, qbl⟩
          case round =>
            obtain ⟨t, dn, ht, rfl, hoi, hbk, hbr⟩ := hrel
            by_cases htl : t < O.length
            · have htl' : (t : Int) < (m4.N.l.length : Int) := by omega
              obtain ⟨hbl, hnr, hsq, hsn, hoi'⟩ := HOK.out.had htl hoi
              rw [List.length_map] at hbl
              have hxt : t < (natI O).length := by rw [hxl]; omega
              obtain ⟨xb, xo, hXA, hXF, hcX⟩ := HX.out.at1 hxt
              have hxv : (natI O)[t] = (O[t] : Int) := by simp [natI]
              have x0 := (hcX.keep (hbr.block xb hXF)).c1
              simp only [hxv, Nat.mul_one] at x0
              simp only at hXA
              have hp9 := HP9.out.below hbr
              have b5 := hp9.box.cell 5
              rw [hg4] at b5
              simp only [List.getElem?_toArray, List.getElem?_cons_zero, List.getElem?_cons_succ] at b5
              rw [at!_eq (by rw [List.length_map]; exact hbl), List.getElem_map] at hnr hsq hsn hoi'
              obtain ⟨nb, no, hNA, hNF, hcN⟩ := hp9.rN.1.at1 hbl
              obtain ⟨g0, g1, g2, g3, g4⟩ := hcN.c5
              have hra := hp9.rN.2 m4.N.l[O[t]] (List.getElem_mem hbl)
              have hra' := hra.mono (fun b hb => (hp9.G b hb).1)
              rw [hNA] at b5
              generalize hn : m4.N.l[O[t]] = n at *
              obtain ⟨xd, xq, ⟨fA, fc, fl⟩, xt, xx⟩ := n
              simp only [Note.d] at hnr hsq hsn hoi'
              have hrg := right_rng hnr
              simp only at hrg
              obtain ⟨d, rfl⟩ := Int.eq_ofNat_of_zero_le hrg.1.1
              simp only [Int.toNat_natCast] at hsq
              have hd12 : d < 12 := by omega
              have hck := dn_cell hbk (show d < dn.length by rw [hoi.len]; exact hd12)
              generalize hdv : dn.getD d 0 = dv at *
              subst hsq
              have HOI' := Lib.hid hoi'
              have HSN := Lib.hid hsn
              have HBK := Lib.hid hbk
              have HRA := Lib.hid hra'
              have HDV := Lib.hid hdv
              have HDL := Lib.hid hoi.len
              have hbi : ((O[t] : Nat) : Int) < (m4.N.l.length : Int) := by omega
              have hbn : ¬ ((m4.N.l.length : Int) ≤ ((O[t] : Nat) : Int)) := by omega
              have hb0 : ¬ (((O[t] : Nat) : Int) < 0) := by omega
              have hd0 : ¬ ((d : Int) < 0) := by omega
              have hd1 : ¬ (12 ≤ (d : Int)) := by omega
              have hmn : min (d : Int) 11 = d := by omega
              have hmx : max (d : Int) 0 = d := by omega
              have hdi : (d : Int) < 12 := by omega
              have hqq := hrg.2.1
              clear hn hnr hsn hoi' hbk hra hra' hdv hrg hoi hp9 hcX hcN hNA hXF hNF hxv
              rw [hXA]
              generalize O[t] = ob at *
              go_wp2_with fail
              refine wp_region_T (fun w' => w'.cell? ⟨xb, xo + t, none⟩ = some (.int .i64 ob) ∧ w'.cell? ⟨pg, 5, none⟩ = some (.slice (some ⟨nb, no, none⟩) m4.N.l.length m4.N.c)) (fun _ => false) (by kernel_rfl) ⟨x0, b5⟩ (fun hHeld => ?_)
              refine qtq 0 ?_
              simp only [qsa, qsb, qsc]
              refine qtq 1 ?_
              simp only [qsa, qsb, qsc]
              refine qtq 2 ?_
              simp only [qsa, qsb, qsc]
              refine qtq 3 ?_
              simp only [qsa, qsb, qsc]
              refine wpAnyT_take2 (i := 4) (v := .bool false) rfl rfl (by kernel_rfl) (by kernel_rfl) (by kernel_rfl) (by kernel_rfl) (fun _ _ _ h => h) (Or.inl ⟨by rfl, ?_⟩) (by first | assumption | trivial) ?_
              · (intro w hSw; (try dsimp only at hSw); go_simp) <;> (first | (with_reducible rfl) | assumption | (simp; done) | (simp [*]; done) | (simp; omega))
              simp only [qsa, qsb, qsc]
              refine qtq 5 ?_
              simp only [qsa, qsb, qsc]
              refine qtq 6 ?_
              simp only [qsa, qsb, qsc]
              refine qtq 7 ?_
              simp only [qsa, qsb, qsc]
              refine qtq 8 ?_
              simp only [qsa, qsb, qsc]
              refine qtq 9 ?_
              simp only [qsa, qsb, qsc]
              refine qtq 10 ?_
              simp only [qsa, qsb, qsc]
              refine qtq 11 ?_
              simp only [qsa, qsb, qsc]
              refine qtq 12 ?_
              simp only [qsa, qsb, qsc]
              refine qtq 13 ?_
              simp only [qsa, qsb, qsc]
              refine qtq 14 ?_
              simp only [qsa, qsb, qsc]
              refine wpAnyT_take2 (i := 15) (v := .bool false) rfl rfl (by kernel_rfl) (by kernel_rfl) (by kernel_rfl) (by kernel_rfl) (fun _ _ _ h => h) (Or.inl ⟨by rfl, ?_⟩) (by first | assumption | trivial) ?_
              · (intro w hSw; (try dsimp only at hSw); go_simp) <;> (first | (with_reducible rfl) | assumption | (simp; done) | (simp [*]; done) | (simp; omega))
              simp only [qsa, qsb, qsc]
              refine qtq 16 ?_
              simp only [qsa, qsb, qsc]
              refine wpAnyT_done (by kernel_rfl) ?_ _
              clear hHeld
              go_wp2_with fail
              refine wp_region_T (fun w' => w'.cell? ⟨xb, xo + t, none⟩ = some (.int .i64 ob) ∧ w'.cell? ⟨pg, 5, none⟩ = some (.slice (some ⟨nb, no, none⟩) m4.N.l.length m4.N.c) ∧ (w'.cell? ⟨nb, no + ob * 5, none⟩ = some (.int .i64 d) ∧ w'.cell? ⟨nb, no + ob * 5 + 1, none⟩ = some (.int .i64 xq) ∧ w'.cell? ⟨nb, no + ob * 5 + 2, none⟩ = some (.slice fA fl.length fc) ∧ w'.cell? ⟨nb, no + ob * 5 + 3, none⟩ = some (.int .i64 xt) ∧ w'.cell? ⟨nb, no + ob * 5 + 4, none⟩ = some (.string xx))) (fun i => 11 ≤ i) (by kernel_rfl) ⟨x0, b5, g0, g1, g2, g3, g4⟩ (fun hHeld => ?_)
              refine qtq 0 ?_
              simp only [qsa, qsb, qsc]
              refine qtq 1 ?_
              simp only [qsa, qsb, qsc]
              refine qtq 2 ?_
              simp only [qsa, qsb, qsc]
              refine qtq 3 ?_
              simp only [qsa, qsb, qsc]
              refine qtq 4 ?_
              simp only [qsa, qsb, qsc]
              refine qtq 5 ?_
              simp only [qsa, qsb, qsc]
              refine qtq 6 ?_
              simp only [qsa, qsb, qsc]
              refine qtq 7 ?_
              simp only [qsa, qsb, qsc]
              refine qtq 8 ?_
              simp only [qsa, qsb, qsc]
              refine qtq 9 ?_
              simp only [qsa, qsb, qsc]
              clear hHeld
              refine wpAnyT_next (i := 10) (by kernel_rfl) rfl ?_
              go_wp2_with fail
              refine And.intro ?_ ?_
              · first
                | exact ⟨kal _ x0, kal _ b5, kal _ g0, kal _ g1, kal _ g2, kal _ g3, kal _ g4⟩
                | exact fun _ => ⟨kal _ x0, kal _ b5, kal _ g0, kal _ g1, kal _ g2, kal _ g3, kal _ g4⟩
              refine wpAnyT_next (i := 11) (by kernel_rfl) rfl ?_
              go_wp2_with fail
              try simp only [QT]
              try (with_reducible refine And.intro (fun h => by simp at h) ?_)
              refine wpAnyT_done (by kernel_rfl) ?_ _
              go_wp2_with fail
              obtain ⟨wb, hwb⟩ : ∃ x, x = (wr.alloc (.cells #[.int .i64 d, .int .i64 xq, .slice fA fl.length fc, .int .i64 xt, .string xx] 61)).drew.drew := ⟨_, rfl⟩
              rw [← hwb]
              have hbb : Below wr.heap.size wr wb := by rw [hwb]; exact Below.drew (Below.drew ((Below.refl _ _).alloc (Nat.le_refl _) _))
              have hnb : Blk wb wr.heap.size 61 #[.int .i64 d, .int .i64 xq, .slice fA fl.length fc, .int .i64 xt, .string xx] := by rw [hwb]; exact (Blk.new _ _ _).drew.drew
              have hbw9 : Below w9.heap.size w9 wb := hbr.trans (hbb.mono hbr.size)
              have hbk2 := HBK.out.later hbb
              have hra2 : Rd (· < wb.heap.size) 1 ienc wb ⟨fA, fc, fl⟩ := HRA.out.below' hbb (Nat.le_refl _)
              obtain ⟨n0, n1, n2, n3, n4, nf, nz⟩ := hnb.b5
              have hck2 := keep_cell hbb hck
              have HNB := Lib.hid hnb
              have HBK2 := Lib.hid hbk2
              have HRA2 := Lib.hid hra2
              have HBW9 := Lib.hid hbw9
              have hgn : w9.heap.size ≤ wr.heap.size := hbr.size
              clear hbb hnb hbk2 hra2 hbw9 hwb x0 b5 g0 g1 g2 g3 g4 hck HRA HBK hbr
              generalize wr.heap.size = gn at *
              refine wp_region_T (fun w' => (w'.cell? ⟨gn, 0, none⟩ = some (.int .i64 d) ∧ w'.cell? ⟨gn, 1, none⟩ = some (.int .i64 xq) ∧ w'.cell? ⟨gn, 2, none⟩ = some (.slice fA fl.length fc) ∧ w'.cell? ⟨gn, 3, none⟩ = some (.int .i64 xt) ∧ w'.cell? ⟨gn, 4, none⟩ = some (.string xx)) ∧ w'.cell? ⟨w9.heap.size, d, none⟩ = some (.int .i64 xq)) (fun _ => false) (by kernel_rfl) ⟨⟨n0, n1, n2, n3, n4⟩, hck2⟩ (fun hHeld => ?_)
              refine qtq 0 ?_
              simp only [qsa, qsb, qsc]
              refine qtq 1 ?_
              simp only [qsa, qsb, qsc]
              refine wpAnyT_take2 (i := 2) (v := .bool false) rfl rfl (by kernel_rfl) (by kernel_rfl) (by kernel_rfl) (by kernel_rfl) (fun _ _ _ h => h) (Or.inl ⟨by rfl, ?_⟩) (by first | assumption | trivial) ?_
              · (intro w hSw; (try dsimp only at hSw); go_simp) <;> (first | (with_reducible rfl) | assumption | (simp; done) | (simp [*]; done) | (simp; omega))
              simp only [qsa, qsb, qsc]
              refine qtq 3 ?_
              simp only [qsa, qsb, qsc]
              refine qtq 4 ?_
              simp only [qsa, qsb, qsc]
              refine qtq 5 ?_
              simp only [qsa, qsb, qsc]
              refine wpAnyT_take2 (i := 6) (v := .bool false) rfl rfl (by kernel_rfl) (by kernel_rfl) (by kernel_rfl) (by kernel_rfl) (fun _ _ _ h => h) (Or.inl ⟨by rfl, ?_⟩) (by first | assumption | trivial) ?_
              · (intro w hSw; (try dsimp only at hSw); go_simp) <;> (first | (with_reducible rfl) | assumption | (simp; done) | (simp [*]; done) | (simp; omega))
              simp only [qsa, qsb, qsc]
              refine qtq 7 ?_
              simp only [qsa, qsb, qsc]
              refine qtq 8 ?_
              simp only [qsa, qsb, qsc]
              refine qtq 9 ?_
              simp only [qsa, qsb, qsc]
              refine qtq 10 ?_
              simp only [qsa, qsb, qsc]
              refine qtq 11 ?_
              simp only [qsa, qsb, qsc]
              refine qtq 12 ?_
              simp only [qsa, qsb, qsc]
              refine qtq 13 ?_
              simp only [qsa, qsb, qsc]
              refine wpAnyT_take2 (i := 14) (v := .int .i64 d) rfl rfl (by kernel_rfl) (by kernel_rfl) (by kernel_rfl) (by kernel_rfl) (fun _ _ _ h => h) (Or.inl ⟨by rfl, ?_⟩) (by first | assumption | trivial) ?_
              · (intro w hSw; (try dsimp only at hSw); go_simp) <;> (first | (with_reducible rfl) | assumption | (simp; done) | (simp [*]; done) | (simp; omega))
              simp only [qsa, qsb, qsc]
              refine wpAnyT_take2 (i := 15) (v := .int .i64 d) rfl rfl (by kernel_rfl) (by kernel_rfl) (by kernel_rfl) (by kernel_rfl) (fun _ _ _ h => h) (Or.inl ⟨by rfl, ?_⟩) (by first | assumption | trivial) ?_
              · (intro w hSw; (try dsimp only at hSw); go_simp) <;> (first | (with_reducible rfl) | assumption | (simp; done) | (simp [*]; done) | (simp; omega))
              simp only [qsa, qsb, qsc]
              refine qtq 16 ?_
              simp only [qsa, qsb, qsc]
              refine qtq 17 ?_
              simp only [qsa, qsb, qsc]
              refine wpAnyT_take2 (i := 18) (v := .bool false) rfl rfl (by kernel_rfl) (by kernel_rfl) (by kernel_rfl) (by kernel_rfl) (fun _ _ _ h => h) (Or.inl ⟨by rfl, ?_⟩) (by first | assumption | trivial) ?_
              · (intro w hSw; (try dsimp only at hSw); go_simp) <;> (first | (with_reducible rfl) | assumption | (simp; done) | (simp [*]; done) | (simp; omega))
              simp only [qsa, qsb, qsc]
              refine qtq 19 ?_
              simp only [qsa, qsb, qsc]
              refine wpAnyT_done (by kernel_rfl) ?_ _
              clear hHeld n0 n1 n2 n3 n4 nf nz hck2
              go_wp2_with fail
              go_loopw [20] (fun i wr2 => ∃ (q : Nat), q ≤ fl.length ∧ q ≤ 12 ∧ i = .int .i64 q ∧ Below wb.heap.size wb wr2) (fun i _ => 12 - (intOf i).toNat)
              case atStart => exact ⟨0, by omega, by omega, rfl, by first | exact Below.refl _ _ | exact Below.drew (Below.refl _ _)⟩
              case round =>
                obtain ⟨q, hqf, hq12, rfl, hbq⟩ := hrel
                obtain ⟨n0, n1, n2, n3, n4, nf, nz⟩ := (HNB.out.later hbq).b5
                have hbk3 := HBK2.out.later hbq
                by_cases hq1 : q < fl.length
                · by_cases hq2 : q < 12
                  · have hq1' : (q : Int) < (fl.length : Int) := by omega
                    have hq2' : (q : Int) < 12 := by omega
                    obtain ⟨fb, fo, hfA, hfF, hcf⟩ := (HRA2.out.below' hbq (Nat.le_refl _)).at1 hq1
                    simp only at hfA
                    have f0 := hcf.c1
                    simp only [Nat.mul_one] at f0
                    have hcq := dn_cell hbk3 (show q < dn.length by rw [HDL.out]; exact hq2)
                    have hle := HSN.out q hq2
                    rw [show seenN fl (q : Int) = fl[q] by unfold seenN; rw [if_pos ⟨by omega, by omega⟩]; simp [List.getD, hq1]] at hle
                    rw [hfA] at n2
                    generalize dn.getD q 0 = dq at *
                    generalize fl[q] = fv at *
                    have hnl : ¬ (dq < fv) := by omega
                    clear hcf hfA hfF hbk3
                    go_wp2_with fail
                    refine wp_region_T (fun w' => w'.cell? ⟨gn, 2, none⟩ = some (.slice (some ⟨fb, fo, none⟩) fl.length fc) ∧ w'.cell? ⟨fb, fo + q, none⟩ = some (.int .i64 fv) ∧ w'.cell? ⟨w9.heap.size, q, none⟩ = some (.int .i64 dq)) (fun _ => false) (by kernel_rfl) ⟨n2, f0, hcq⟩ (fun hHeld => ?_)
                    refine qtq 0 ?_
                    simp only [qsa, qsb, qsc]
                    refine qtq 1 ?_
                    simp only [qsa, qsb, qsc]
                    refine qtq 2 ?_
                    simp only [qsa, qsb, qsc]
                    refine qtq 3 ?_
                    simp only [qsa, qsb, qsc]
                    refine qtq 4 ?_
                    simp only [qsa, qsb, qsc]
                    refine qtq 5 ?_
                    simp only [qsa, qsb, qsc]
                    refine qtq 6 ?_
                    simp only [qsa, qsb, qsc]
                    refine qtq 7 ?_
                    simp only [qsa, qsb, qsc]
                    refine qtq 8 ?_
                    simp only [qsa, qsb, qsc]
                    refine wpAnyT_take2 (i := 9) (v := .bool false) rfl rfl (by kernel_rfl) (by kernel_rfl) (by kernel_rfl) (by kernel_rfl) (fun _ _ _ h => h) (Or.inl ⟨by rfl, ?_⟩) (by first | assumption | trivial) ?_
                    · (intro w hSw; (try dsimp only at hSw); go_simp) <;> (first | (with_reducible rfl) | assumption | (simp; done) | (simp [*]; done) | (simp; omega))
                    simp only [qsa, qsb, qsc]
                    refine wpAnyT_done (by kernel_rfl) ?_ _
                    clear hHeld n0 n1 n2 n3 n4 nf nz f0 hcq
                    go_wp2_with fail
                    go_roundw
                    case rel => exact ⟨q + 1, by omega, by omega, by go_num, by first | exact hbq | exact Below.drew hbq⟩
                    case measure => simp [intOf]; omega
                  · obtain rfl : q = 12 := by omega
                    have hck3 := dn_cell hbk3 (show d < dn.length by rw [HDL.out]; exact hd12)
                    rw [HDV.out] at hck3
                    have hfz := hbk3.frozen d
                    have hbs := hbk3.set_ d (.int .i64 (xq + 1))
                    rw [dn_set] at hbs
                    have HBS := Lib.hid hbs
                    have hw1 : IntKind.i64.wrap (xq + 1) = xq + 1 := by rw [IntKind.wrap_i64]; omega
                    have HBQ := Lib.hid hbq
                    clear hbk3 hbs hbq
                    go_wp2_with fail
                    refine wp_region_T (fun w' => (w'.cell? ⟨gn, 0, none⟩ = some (.int .i64 d) ∧ w'.cell? ⟨gn, 1, none⟩ = some (.int .i64 xq) ∧ w'.cell? ⟨gn, 2, none⟩ = some (.slice fA fl.length fc) ∧ w'.cell? ⟨gn, 3, none⟩ = some (.int .i64 xt) ∧ w'.cell? ⟨gn, 4, none⟩ = some (.string xx)) ∧ w'.cell? ⟨w9.heap.size, d, none⟩ = some (.int .i64 xq)) (fun i => 10 ≤ i) (by kernel_rfl) ⟨⟨n0, n1, n2, n3, n4⟩, hck3⟩ (fun hHeld => ?_)
                    refine qtq 0 ?_
                    simp only [qsa, qsb, qsc]
                    refine qtq 1 ?_
                    simp only [qsa, qsb, qsc]
                    refine qtq 2 ?_
                    simp only [qsa, qsb, qsc]
                    refine qtq 3 ?_
                    simp only [qsa, qsb, qsc]
                    refine qtq 4 ?_
                    simp only [qsa, qsb, qsc]
                    refine qtq 5 ?_
                    simp only [qsa, qsb, qsc]
                    refine qtq 6 ?_
                    simp only [qsa, qsb, qsc]
                    refine qtq 7 ?_
                    simp only [qsa, qsb, qsc]
                    refine qtq 8 ?_
                    simp only [qsa, qsb, qsc]
                    refine qtq 9 ?_
                    simp only [qsa, qsb, qsc]
                    clear hHeld
                    refine wpAnyT_next (i := 10) (by kernel_rfl) rfl ?_
                    go_wp2_with fail
                    try simp only [QT]
                    try (with_reducible refine And.intro (fun h => by simp at h) ?_)
                    refine wpAnyT_done (by kernel_rfl) ?_ _
                    clear n0 n1 n2 n3 n4 nf nz hck3 hfz
                    have hbm : bumpN dn (d : Int) = dn.set d (xq + 1) := by unfold bumpN; rw [Int.toNat_natCast, HDV.out]
                    have hb99 := (HBW9.out.trans (HBQ.out.mono HBW9.out.size)).setCell (p := ⟨w9.heap.size, d, none⟩) (Nat.le_refl _) (.int .i64 (xq + 1))
                    have HB99 := Lib.hid hb99
                    have HBM := Lib.hid hbm
                    clear hb99 hbm
                    go_wp2_with fail
                    go_roundw
                    case rel => exact ⟨t + 1, bumpN dn (d : Int), by omega, by go_num, HOI'.out, by rw [HBM.out]; first | exact HBS.out | exact HBS.out.drew, by first | exact HB99.out | exact Below.drew HB99.out⟩
                    case measure => simp [intOf]; omega
                · obtain rfl : q = fl.length := by omega
                  have hck3 := dn_cell hbk3 (show d < dn.length by rw [HDL.out]; exact hd12)
                  rw [HDV.out] at hck3
                  have hfz := hbk3.frozen d
                  have hbs := hbk3.set_ d (.int .i64 (xq + 1))
                  rw [dn_set] at hbs
                  have HBS := Lib.hid hbs
                  have hw1 : IntKind.i64.wrap (xq + 1) = xq + 1 := by rw [IntKind.wrap_i64]; omega
                  have HBQ := Lib.hid hbq
                  clear hbk3 hbs hbq
                  go_wp2_with fail
                  refine wp_region_T (fun w' => (w'.cell? ⟨gn, 0, none⟩ = some (.int .i64 d) ∧ w'.cell? ⟨gn, 1, none⟩ = some (.int .i64 xq) ∧ w'.cell? ⟨gn, 2, none⟩ = some (.slice fA fl.length fc) ∧ w'.cell? ⟨gn, 3, none⟩ = some (.int .i64 xt) ∧ w'.cell? ⟨gn, 4, none⟩ = some (.string xx)) ∧ w'.cell? ⟨w9.heap.size, d, none⟩ = some (.int .i64 xq)) (fun i => 10 ≤ i) (by kernel_rfl) ⟨⟨n0, n1, n2, n3, n4⟩, hck3⟩ (fun hHeld => ?_)
                  refine qtq 0 ?_
                  simp only [qsa, qsb, qsc]
                  refine qtq 1 ?_
                  simp only [qsa, qsb, qsc]
                  refine qtq 2 ?_
                  simp only [qsa, qsb, qsc]
                  refine qtq 3 ?_
                  simp only [qsa, qsb, qsc]
                  refine qtq 4 ?_
                  simp only [qsa, qsb, qsc]
                  refine qtq 5 ?_
                  simp only [qsa, qsb, qsc]
                  refine qtq 6 ?_
                  simp only [qsa, qsb, qsc]
                  refine qtq 7 ?_
                  simp only [qsa, qsb, qsc]
                  refine qtq 8 ?_
                  simp only [qsa, qsb, qsc]
                  refine qtq 9 ?_
                  simp only [qsa, qsb, qsc]
                  clear hHeld
                  refine wpAnyT_next (i := 10) (by kernel_rfl) rfl ?_
                  go_wp2_with fail
                  try simp only [QT]
                  try (with_reducible refine And.intro (fun h => by simp at h) ?_)
                  refine wpAnyT_done (by kernel_rfl) ?_ _
                  clear n0 n1 n2 n3 n4 nf nz hck3 hfz
                  have hbm : bumpN dn (d : Int) = dn.set d (xq + 1) := by unfold bumpN; rw [Int.toNat_natCast, HDV.out]
                  have hb99 := (HBW9.out.trans (HBQ.out.mono HBW9.out.size)).setCell (p := ⟨w9.heap.size, d, none⟩) (Nat.le_refl _) (.int .i64 (xq + 1))
                  have HB99 := Lib.hid hb99
                  have HBM := Lib.hid hbm
                  clear hb99 hbm
                  go_wp2_with fail
                  go_roundw
                  case rel => exact ⟨t + 1, bumpN dn (d : Int), by omega, by go_num, HOI'.out, by rw [HBM.out]; first | exact HBS.out | exact HBS.out.drew, by first | exact HB99.out | exact Below.drew HB99.out⟩
                  case measure => simp [intOf]; omega
            · obtain rfl : t = O.length := by omega
              go_wp2_with fail
              go_ret
              exact ⟨rfl, HB9.out.trans (hbr.mono HB9.out.size)⟩
        · have hjv : ((j + 1 : Nat) : Int) - 1 = j := by omega
          rw [hjv]
          have hj3 : j < 3 := by omega
          have hj3' : (j : Int) < 3 := by omega
          obtain ⟨c, hc40, hi⟩ := HE.out.inv he
          have hpl : m4.P.l.length = 3 := by have := HI.out.lP hi; simpa [PlM.d] using this
          have hjp : j < m4.P.l.length := by omega
          obtain ⟨pb, hPA, _, _, hcP, hfP⟩ := hp.P.atk Phone.k (List.getElem?_eq_getElem hjp)
          obtain ⟨c0, c1, c2, c3, c4⟩ := hcP.c5
          obtain ⟨b0, b1, b2, b3, b4, b5, bf, bz⟩ := hp.box.b6
          rw [hPA, hpl, hg4] at b0
          have hrp := hp.rP m4.P.l[j] (List.getElem_mem hjp)
          have hpd : m4.d.P[j]? = some m4.P.l[j].d := by simp only [PlM.d, List.getElem?_map, List.getElem?_eq_getElem hjp, Option.map_some]
          have hPS : m4.P.l[j]? = some m4.P.l[j] := List.getElem?_eq_getElem hjp
          generalize m4.P.l[j] = ph at *
          have hcut := phone_cut_s ph wr (hrp.mono fun b hb => (hp.G b hb).1)
          have HRP := Lib.hid hrp
          have HPX := Lib.hid hp
          have HIX := Lib.hid hi
          have HEX := Lib.hid he
          have HBX := Lib.hid hb
          have HPD := Lib.hid hpd
          have HPS := Lib.hid hPS
          have HPA := Lib.hid hPA
          clear hcP hfP hrp hp hi he hb hpd hPS hPA b1 b2 b3 b4 b5 bf
          go_wp2_with fail
          refine hcut.mono ?_
          clear hcut
          rintro e w4 ⟨p', rfl, hdj, hjr, hb4⟩
          have hpr1 := PR0.of (m := m4) (fun b hG => (HPX.out.G b hG).1) hb4 HRP.out hjr.out
          have hp1 := HPX.out.more hb4 (fun _ => True)
          have hr1 : RdPhone (fun b => m4.G b ∨ (wr.heap.size ≤ b ∧ b < w4.heap.size ∧ True)) w4 p' := hpr1.mono fun b hb => by
            rcases hb with hb | hb
            · exact .inl hb
            · exact .inr ⟨hb.1, hb.2, trivial⟩
          have hbw4 : Below w.heap.size w w4 := HBX.out.trans (hb4.mono HBX.out.size)
          have HP1 := Lib.hid hp1
          have HR1 := Lib.hid hr1
          have HBW4 := Lib.hid hbw4
          have HDJ := Lib.hid hdj
          clear hpr1 hp1 hr1 hbw4 hb4 hjr hdj c0 c1 c2 c3 c4 b0
          simp only [Phone.v]
          go_wp2_with fail
          obtain ⟨wa, hwa⟩ : ∃ x, x = World.drew (w4.alloc (.cells #[.int .i64 p'.id, .bool p'.cut, .slice p'.H.A p'.H.l.length p'.H.c, .slice p'.N.A p'.N.l.length p'.N.c, .slice p'.S.A p'.S.l.length p'.S.c] 33)) := ⟨_, rfl⟩
          obtain ⟨G1, hG1⟩ : ∃ G1 : Nat → Prop, G1 = fun b => m4.G b ∨ (wr.heap.size ≤ b ∧ b < w4.heap.size ∧ True) := ⟨_, rfl⟩
          have hpa : PlayAt w2.heap.size wa { m4 with G := G1 } := by rw [hwa, hG1]; exact (HP1.out.alloc _).drew
          have hra : RdPhone G1 wa p' := by
            rw [hwa, hG1]
            exact HR1.out.keep fun b hb => Below.heap_alloc _ _ b (HP1.out.G b hb).1
          have hbx : Blk wa w4.heap.size 33 #[.int .i64 p'.id, .bool p'.cut, .slice p'.H.A p'.H.l.length p'.H.c, .slice p'.N.A p'.N.l.length p'.N.c, .slice p'.S.A p'.S.l.length p'.S.c] := by rw [hwa]; exact (Blk.new _ _ _).drew
          have hba : Below w.heap.size w wa := by rw [hwa]; exact Below.drew (HBW4.out.alloc HBW4.out.size _)
          have e0 := hpa.box.cell 0
          simp only at e0
          rw [hg4] at e0
          have e5 := hbx.h5p
          rw [hwa] at e0 e5
          obtain ⟨pb', hPA', _, _, hcP', hfP'⟩ := hpa.P.atk Phone.k (i := j) (x := ph) HPS.out
          obtain rfl : pb' = pb := by
            have h1 : m4.P.A = some ⟨pb', 0, none⟩ := hPA'
            rw [HPA.out] at h1
            injection h1 with h1
            injection h1 with h1
            exact h1.symm
          obtain ⟨k0, k1, k2, k3, k4⟩ := hcP'.c5
          have e0' : wa.cell? ⟨pg, 0, none⟩ = some (.slice (some ⟨pb', 0, none⟩) 3 m4.P.c) := by
            rw [← hwa] at e0
            rw [e0]
            simp only [List.getElem?_toArray, List.getElem?_cons_zero, hpl, HPA.out]
          rw [hwa] at e0'
          have HPAA := Lib.hid hpa
          have HRA := Lib.hid hra
          have HBA := Lib.hid hba
          clear hpa hra hba hbx hcP' hPA' HP1 HR1 HBW4 e0 hG1
          refine wp_region_T (fun W => W.cell? ⟨pg, 0, none⟩ = some (.slice (some ⟨pb', 0, none⟩) 3 m4.P.c) ∧ W.cell? ⟨w4.heap.size, 0, none⟩ = some (.int .i64 p'.id) ∧ W.cell? ⟨w4.heap.size, 1, none⟩ = some (.bool p'.cut) ∧ W.cell? ⟨w4.heap.size, 2, none⟩ = some (.slice p'.H.A p'.H.l.length p'.H.c) ∧ W.cell? ⟨w4.heap.size, 3, none⟩ = some (.slice p'.N.A p'.N.l.length p'.N.c) ∧ W.cell? ⟨w4.heap.size, 4, none⟩ = some (.slice p'.S.A p'.S.l.length p'.S.c)) (fun i => 7 ≤ i) (by kernel_rfl) ⟨e0', e5⟩ (fun hHeld => ?_)
          rw [← hwa] at hHeld ⊢
          clear hwa e0' e5
          generalize w4.heap.size = gx at *
          refine qtq 0 ?_
          simp only [qsa, qsb, qsc]
          refine qtq 1 ?_
          simp only [qsa, qsb, qsc]
          refine qtq 2 ?_
          simp only [qsa, qsb, qsc]
          refine qtq 3 ?_
          simp only [qsa, qsb, qsc]
          refine qtq 4 ?_
          simp only [qsa, qsb, qsc]
          refine qtq 5 ?_
          simp only [qsa, qsb, qsc]
          refine qtq 6 ?_
          simp only [qsa, qsb, qsc]
          clear hHeld
          refine wpAnyT_next (i := 7) (by kernel_rfl) rfl ?_
          go_wp2_with fail
          try simp only [QT]
          try (with_reducible refine And.intro (fun h => by simp at h) ?_)
          refine wpAnyT_done (by kernel_rfl) ?_ _
          clear k0 k1 k2 k3 k4 hfP'
          have hp4 := HPAA.out.stP (b := pb') (w' := (((((wa.setCell ⟨pb', j * 5, none⟩ (.int .i64 p'.id)).setCell ⟨pb', j * 5 + 1, none⟩ (.bool p'.cut)).setCell ⟨pb', j * 5 + 2, none⟩ (.slice p'.H.A p'.H.l.length p'.H.c)).setCell ⟨pb', j * 5 + 3, none⟩ (.slice p'.N.A p'.N.l.length p'.N.c)).setCell ⟨pb', j * 5 + 4, none⟩ (.slice p'.S.A p'.S.l.length p'.S.c))) HPA.out (by simp) (pst_off _ _ _ _) (l := m4.P.l.set j p') (by simp) (by
            have hq := HPAA.out.P
            unfold Own at hq
            rw [show ({ m4 with G := G1 } : PlM).P.A = some ⟨pb', 0, none⟩ from HPA.out] at hq ⊢
            exact Own.setPhone (B := w2.heap.size) (w := wa) (l := m4.P.l) hq p' HPS.out) (fun y hy => by
            rcases List.mem_or_eq_of_mem_set hy with hy | rfl
            · exact HPAA.out.rP y hy
            · exact HRA.out)
          have hpB : w.heap.size ≤ pb' := Nat.le_trans hBw (HPX.out.rb (i := 1) HPA.out).2
          have hb7 : Below w.heap.size w (((((wa.setCell ⟨pb', j * 5, none⟩ (.int .i64 p'.id)).setCell ⟨pb', j * 5 + 1, none⟩ (.bool p'.cut)).setCell ⟨pb', j * 5 + 2, none⟩ (.slice p'.H.A p'.H.l.length p'.H.c)).setCell ⟨pb', j * 5 + 3, none⟩ (.slice p'.N.A p'.N.l.length p'.N.c)).setCell ⟨pb', j * 5 + 4, none⟩ (.slice p'.S.A p'.S.l.length p'.S.c)) := ((((HBA.out.setCell hpB _).setCell hpB _).setCell hpB _).setCell hpB _).setCell hpB _
          obtain ⟨hic, hct, _⟩ := HI.out.cut HIX.out j _ HPD.out
          have hec := HE.out.cut HEX.out j _ HPD.out
          have hm5 : ∃ m5 : PlM, m5.g = pg ∧ PlayAt w2.heap.size (((((wa.setCell ⟨pb', j * 5, none⟩ (.int .i64 p'.id)).setCell ⟨pb', j * 5 + 1, none⟩ (.bool p'.cut)).setCell ⟨pb', j * 5 + 2, none⟩ (.slice p'.H.A p'.H.l.length p'.H.c)).setCell ⟨pb', j * 5 + 3, none⟩ (.slice p'.N.A p'.N.l.length p'.N.c)).setCell ⟨pb', j * 5 + 4, none⟩ (.slice p'.S.A p'.S.l.length p'.S.c)) m5 ∧ m5.d = { m4.d with P := m4.d.P.set j ph.d.cutS.1 } ∧ m5.Z = m4.Z := by
            refine ⟨{ m4 with G := G1, P := ⟨m4.P.A, m4.P.c, m4.P.l.set j p'⟩ }, hg4, hp4, ?_, rfl⟩
            simp only [PlM.d, List.map_set, HDJ.out]
          obtain ⟨m5, hg5, hp5, hd5, hz5⟩ := hm5
          rw [← hd5] at hic hec
          have hjl : j < m4.d.P.length := by simpa [PlM.d] using hjp
          have hP5 : m5.d.P[j]? = some ph.d.cutS.1 := by rw [hd5]; exact List.getElem?_set_self hjl
          have hQl : j < m5.d.Q.length := by have := (HI.out.fine hic).m; omega
          have hQ5 : m5.d.Q[j]? = some m5.d.Q[j] := List.getElem?_eq_getElem hQl
          generalize m5.d.Q[j] = q at *
          have hjn := pjoinZ w2.heap.size m5 (((((wa.setCell ⟨pb', j * 5, none⟩ (.int .i64 p'.id)).setCell ⟨pb', j * 5 + 1, none⟩ (.bool p'.cut)).setCell ⟨pb', j * 5 + 2, none⟩ (.slice p'.H.A p'.H.l.length p'.H.c)).setCell ⟨pb', j * 5 + 3, none⟩ (.slice p'.N.A p'.N.l.length p'.N.c)).setCell ⟨pb', j * 5 + 4, none⟩ (.slice p'.S.A p'.S.l.length p'.S.c)) hp5 j _ q (HI.out.jok hic hc40 j _ q hP5 hQ5)
          obtain ⟨pp, hpj5, hme, hml, hej⟩ := HE.out.join hec _ q hP5 hQ5 hct
          rw [hg5] at hjn
          have HPJ5 := Lib.hid hpj5
          have HME := Lib.hid hme
          have HML := Lib.hid hml
          have HEJ := Lib.hid hej
          have HB7 := Lib.hid hb7
          have HZ5 := Lib.hid hz5
          clear hp4 hb7 hic hct hp5 hd5 hP5 hQ5 hpj5 hme hml hej hz5 hec HPAA HRA HBA HEX HIX HPX HRP HBX HPD HPS HPA HDJ
          generalize (((((wa.setCell ⟨pb', j * 5, none⟩ (.int .i64 p'.id)).setCell ⟨pb', j * 5 + 1, none⟩ (.bool p'.cut)).setCell ⟨pb', j * 5 + 2, none⟩ (.slice p'.H.A p'.H.l.length p'.H.c)).setCell ⟨pb', j * 5 + 3, none⟩ (.slice p'.N.A p'.N.l.length p'.N.c)).setCell ⟨pb', j * 5 + 4, none⟩ (.slice p'.S.A p'.S.l.length p'.S.c)) = V at *
          go_wp2_with fail
          refine hjn.mono ?_
          clear hjn
          rintro e w5 ⟨rfl, m6, hp6, hg6, hd6, hz6, hb6⟩
          rw [← hd6] at HPJ5 HEJ
          have hb8 : Below w.heap.size w w5 := HB7.out.trans (hb6.mono hBw)
          have hpl6 : m6.P.l.length = 3 := by
            obtain ⟨_, _, hi6⟩ := HE.out.inv HEJ.out
            have := HI.out.lP hi6
            simpa [PlM.d] using this
          have hjp6 : j < m6.P.l.length := by omega
          obtain ⟨pb6, hPA6, _, _, hcP6, _⟩ := hp6.P.atk Phone.k (List.getElem?_eq_getElem hjp6)
          obtain ⟨c0, c1, c2, c3, c4⟩ := hcP6.c5
          have b0 := hp6.box.cell 0
          have hpp : m6.P.l[j].d = pp := by
            have := HPJ5.out
            simp only [PlM.d, List.getElem?_map, List.getElem?_eq_getElem hjp6, Option.map_some, Option.some.injEq] at this
            exact this
          have hg6' : m6.g = pg := by first | exact hg6 | exact hg6.trans hg5
          rw [hg6'] at b0
          simp only [List.getElem?_toArray, List.getElem?_cons_zero, hpl6, hPA6] at b0
          have hz : m6.Z = m4.Z := hz6.trans HZ5.out
          have hrz := hp6.rZ.mono fun b hb => (hp6.G b hb).1
          rw [hz] at hrz
          have hrn := (hp6.rP m6.P.l[j] (List.getElem_mem hjp6)).2.1.mono fun b hb => (hp6.G b hb).1
          have hME : (mergeN (m4.Z.l.map Note.d) (m6.P.l[j].N.l.map Note.d)).2 = 0 := by have := HME.out; rw [← hpp] at this; exact this
          have hML : m4.Z.l.length + m6.P.l[j].N.l.length ≤ 10000 := by
            have := HML.out
            rw [← hpp] at this
            simpa [Phone.d] using this
          have hEJ : E j m6.d (mergeN (m4.Z.l.map Note.d) (m6.P.l[j].N.l.map Note.d)).1 := by have := HEJ.out; rw [← hpp] at this; exact this
          have HP6 := Lib.hid hp6
          have HG6 := Lib.hid hg6'
          clear hp6 hcP6 hPA6 hb6 hd6 hpp c0 c1 c2 c4 hpl6 hpl hz6 hz HPJ5 HME HML HEJ HZ5
          generalize m6.P.l[j] = ph6 at *
          have hmg := merge_note m4.Z ph6.N w5 hrz hrn hML
          generalize hM : mergeN (m4.Z.l.map Note.d) (ph6.N.l.map Note.d) = M at *
          obtain ⟨M1, M2⟩ := M
          simp only at hME hEJ
          subst hME
          have HEJ := Lib.hid hEJ
          clear hM hEJ hrz hrn hML
          go_wp2_with fail
          refine hmg.mono ?_
          clear hmg
          rintro e w6 ⟨x, rfl, hx, hrx, hb9⟩
          have hb10 : Below w.heap.size w w6 := hb8.trans (hb9.mono hb8.size)
          have hp7 := (HP6.out.more hb9 (fun _ => True)).setZ (s := x) (hrx.mono fun b hb => .inr ⟨hb.1, hb.2, trivial⟩)
          have hej : E j m6.d (x.l.map Note.d) := by rw [hx]; exact HEJ.out
          have HP7 := Lib.hid hp7
          have HEJ' := Lib.hid hej
          clear hp7 hej hx hrx hb9 c3 b0
          go_wp2_with fail
          go_roundw
          case rel => exact ⟨j, { m6 with G := fun b => m6.G b ∨ (w5.heap.size ≤ b ∧ b < w6.heap.size ∧ True), Z := x }, by omega, by go_num, rfl, HG6.out, HP7.out, HEJ'.out, hb10⟩
          case measure => simp [intOf] <;> omega
end Go.Proofs.Ythnblhbdfpmolaa
