/- Walk: units.scoped. -/
import Derived.Test.YtcgocdhhneckhaaGreatFnammxaz
namespace Go.Proofs.YtcgocdhhneckhaaGreat
open Go.RowKit
theorem ScS.later {B : Nat} {w : World} {g0 g gl : Nat} {cs : Array Value} {x : LT} {ls : Sl LT} {us : Sl Int} {W W' : World} (h : ScS B w g0 g gl cs x ls us W) (hb : Below W.heap.size W W') : ScS B w g0 g gl cs x ls us W' :=
  ⟨h.own.below hb, h.ous.below hb, h.b0.later hb, h.b1.later hb, h.bx.later hb, h.ap, h.lo, ⟨h.ge.1, h.ge.2.1, Nat.le_trans h.ge.2.2 hb.size⟩, h.bel.trans (hb.mono (Nat.le_trans h.ge.1 (by have := h.ge.2.2; have := h.lo.1; omega)))⟩
/-- What the loop keeps. -/
structure ScI (B : Nat) (w : World) (g0 g : Nat) (ls : Sl LT) (us : Sl Int) (W : World) : Prop where
  own : Own B 57 6 LT.enc W ls
  ous : Own B 3 1 ienc W us
  b0 : Blk W g0 103 #[.slice none 0 0, .slice none 0 0]
  b1 : Blk W g 103 #[.slice ls.A ls.l.length ls.c, .slice us.A us.l.length us.c]
  lo : g0 < B ∧ g < B
  ge : w.heap.size ≤ g0 ∧ w.heap.size ≤ g ∧ B ≤ W.heap.size
  bel : Below w.heap.size w W
  ne : g0 ≠ g
theorem ScI.enter {B : Nat} {w : World} {g0 g : Nat} {ls : Sl LT} {us : Sl Int} {W : World} (h : ScI B w g0 g ls us W) (x : LT) : ScS B w g0 g W.heap.size #[.slice ls.A ls.l.length ls.c, .slice us.A us.l.length us.c] x ls us (W.alloc (.cells x.enc.toArray 57)) :=
  ⟨h.own.alloc _, h.ous.alloc _, h.b0.alloc _, h.b1.alloc _, Blk.new _ _ _, fun k hk => by have := h.own.bound k hk; omega, h.lo, ⟨h.ge.1, h.ge.2.1, by have := h.ge.2.2; simp; omega⟩, h.bel.alloc (by have := h.ge; have := h.lo; omega) _⟩
/-- Both appended, and stored. -/
theorem ScS.done {B : Nat} {w : World} {g0 g gl : Nat} {p0 p1 : Value} {x : LT} {ls : Sl LT} {us : Sl Int} {W : World} (h : ScS B w g0 g gl #[p0, p1] x ls us W) (hne : g0 ≠ g) : ScI B w g0 g ls us ((W.setCell ⟨g, 0, none⟩ (.slice ls.A ls.l.length ls.c)).setCell ⟨g, 1, none⟩ (.slice us.A us.l.length us.c)) :=
  ⟨(h.own.far h.lo.2 _).far h.lo.2 _, (h.ous.far h.lo.2 _).far h.lo.2 _, (h.b0.far hne _).far hne _, by simpa using (h.b1.set_ 0 (.slice ls.A ls.l.length ls.c)).set_ 1 (.slice us.A us.l.length us.c), h.lo, ⟨h.ge.1, h.ge.2.1, by have := h.ge.2.2; simpa using this⟩, (h.bel.setCell h.ge.2.1 _).setCell h.ge.2.1 _, hne⟩
def ScP (w w' : World) (L : List LT) (e : Ending) : Prop := ∃ (ls : Sl LT) (us : Sl Int), e = .returned (ScV ls us) ∧ ls.l = L ∧ us.l = scU L ∧ LetsAt (· < w'.heap.size) w' ls ∧ Rd (· < w'.heap.size) 1 ienc w' us ∧ Below w.heap.size w w'
theorem ScS.cells8 {B : Nat} {w : World} {g0 g gl : Nat} {lA uA xA : Option Addr} {lc uc xc n1 n2 : Nat} {xn xs : ByteArray} {xo xm xu : Int} {xl : List PT} {ls : Sl LT} {us : Sl Int} {W : World} (h : ScS B w g0 g gl #[.slice lA n1 lc, .slice uA n2 uc] ⟨xn, xo, xm, xu, xs, xA, xc, xl⟩ ls us W) :
    W.cell? ⟨g, 0, none⟩ = some (.slice lA n1 lc) ∧ W.cell? ⟨g, 1, none⟩ = some (.slice uA n2 uc) ∧ W.cell? ⟨gl, 0, none⟩ = some (.string xn) ∧ W.cell? ⟨gl, 1, none⟩ = some (.int .i64 xo) ∧ W.cell? ⟨gl, 2, none⟩ = some (.int .i64 xm) ∧ W.cell? ⟨gl, 3, none⟩ = some (.int .i64 xu) ∧ W.cell? ⟨gl, 4, none⟩ = some (.string xs) ∧ W.cell? ⟨gl, 5, none⟩ = some (.slice xA xl.length xc) :=
  ⟨h.b1.cell 0, h.b1.cell 1, h.bx.cell 0, h.bx.cell 1, h.bx.cell 2, h.bx.cell 3, h.bx.cell 4, h.bx.cell 5⟩
set_option maxRecDepth 100000 in
set_option maxHeartbeats 3200000 in
theorem un_scoped (L : Sl LT) (w : World) (hL : LetsAt (· < w.heap.size) w L) (hk : ∀ x, x ∈ L.l → rexp x.b = true) (hl : L.l.length ≤ 20) :
    Calls Tryz.prog 62 #[.slice L.A L.l.length L.c] w fun e w' => ScP w w' L.l e := by
  have HL := Lib.hid hL
  have HK := Lib.hid hk
  have hln : L.l.length ≤ 9223372036854775807 := by omega
  clear hL hk
  go_enter Tryz.func62, Tryz.ntmps62
  go_wp2_with fail
  go_loopw [10] (fun i wr => ∃ (j : Nat) (ls : Sl LT) (us : Sl Int), j ≤ L.l.length ∧ i = .int .i64 j ∧ Hid (ScI (w.heap.size + 1 + 1) w w.heap.size (w.heap.size + 1) ls us wr) ∧ Hid (ls.l = L.l.take j) ∧ Hid (us.l = scN L.l j)) (fun i _ => L.l.length - (intOf i).toNat)
  case atStart =>
    refine ⟨0, ⟨none, 0, []⟩, ⟨none, 0, []⟩, by omega, rfl, Lib.hid ⟨Own.nil _ _ _ _ _, Own.nil _ _ _ _ _, (Blk.new _ _ _).alloc _, Blk.new' (by simp), ⟨by omega, by omega⟩, ⟨Nat.le_refl _, by omega, by simp⟩, qbl, by omega⟩, Lib.hid rfl, Lib.hid rfl⟩
  case round =>
    obtain ⟨j, ⟨lA, lc, ll⟩, ⟨uA, uc, ul⟩, hj, rfl, HI, HLL, HUL⟩ := hrel
    by_cases hlt : j < L.l.length
    · have hLW := HL.out.later HI.out.bel
      obtain ⟨b, q, hA, hbl, hcl⟩ := hLW.rd.at1 hlt
      have HX := Lib.hid (hLW.all _ (List.getElem_mem hlt))
      have HKX := Lib.hid (HK.out _ (List.getElem_mem hlt))
      have HSU := Lib.hid (scN_succ (List.getElem?_eq_getElem hlt))
      have HTK := Lib.hid (show L.l.take (j + 1) = L.l.take j ++ [L.l[j]] by rw [List.take_succ_eq_append_getElem hlt])
      clear hLW
      generalize L.l[j] = x at *
      obtain ⟨xn, xo, xm, xu, xs, xA, xc, xl⟩ := x
      obtain ⟨g0, g1, g2, g3, g4, g5⟩ := hcl.c6
      obtain ⟨s0, s1, sf, sz⟩ := HI.out.b1.b2
      have hne : w.heap.size + 1 < wr.heap.size := HI.out.b1.lt
      clear hcl
      rw [hA]
      have HLW := Lib.hid hA
      clear hA
      go_wp2_with fail
      have HS0 := Lib.hid (HI.out.enter ⟨xn, xo, xm, xu, xs, xA, xc, xl⟩)
      have HN0 := Lib.hid HI.out.ne
      simp only [LT.enc, PT.enc] at HS0
      have HAW : Hid (LetsAt (· < wr.heap.size) wr ⟨lA, lc, ll⟩) := Lib.hid ⟨(HI.out.own.rd LT.enc_k).mono (fun b hb => hb.2), fun y hy => by
        have := HLL.out
        (try simp only at this hy)
        rw [this] at hy
        exact (HL.out.later HI.out.bel).all y (List.mem_of_mem_take hy)⟩
      have HUW : Hid (Rd (· < wr.heap.size) 1 ienc wr ⟨uA, uc, ul⟩) := Lib.hid ((HI.out.ous.rd ienc_k).mono (fun b hb => hb.2))
      have hlen : ul.length = ll.length := by
        have h1 := HLL.out
        have h2 := HUL.out
        (try simp only at h1 h2)
        rw [h1, h2, scN_len _ _ (by omega), List.length_take]
        omega
      have HBW : Below wr.heap.size wr (wr.alloc (.cells #[.string xn, .int .i64 xo, .int .i64 xm, .int .i64 xu, .string xs, .slice xA xl.length xc] 57)) := qbl
      have hcall := un_unit ⟨lA, lc, ll⟩ ⟨uA, uc, ul⟩ ⟨xo, xm, xu, xs, xA, xc, xl⟩ _ HKX.out (HX.out.b.later HBW) (HAW.out.later HBW) (HUW.out.later HBW) hlen
      have hug := HUL.out
      have hlg := HLL.out
      (try simp only at hug hlg)
      simp only [ScV, PT.v] at hcall
      have hX : unU ll ul 12 ⟨xo, xm, xu, xs, xA, xc, xl⟩ = unU (L.l.take j) (scN L.l j) 12 ⟨xo, xm, xu, xs, xA, xc, xl⟩ := by rw [hug, hlg]
      rw [hX] at hcall
      obtain ⟨V, hV⟩ : ∃ V, unU (L.l.take j) (scN L.l j) 12 ⟨xo, xm, xu, xs, xA, xc, xl⟩ = V := ⟨_, rfl⟩
      rw [hV] at hcall
      have hsu := HSU.out
      simp only [hV] at hsu
      have HSV := Lib.hid hsu
      clear hV hX hug hlg hlen HAW HUW HBW hsu HSU g0 g1 g2 g3 g4 g5 s0 s1 sf sz
      generalize wr.alloc (.cells #[.string xn, .int .i64 xo, .int .i64 xm, .int .i64 xu, .string xs, .slice xA xl.length xc] 57) = w5 at *
      generalize wr.heap.size = gl at *
      refine hcall.mono ?_
      clear hcall
      rintro e w6 ⟨⟨RA, rn, rc, rfl⟩, hb6⟩
      have HS6 := Lib.hid (HS0.out.later hb6)
      clear HS0 hb6 HI
      by_cases hv2 : V.2 = 0
      · have HUO : Hid (uo V = V.1) := Lib.hid (by unfold uo; rw [if_pos hv2])
        rw [if_pos hv2, hv2]
        clear hv2
        go_wp2_with fail
        have HS7 := Lib.hid (HS6.out.alloc (.cells #[.slice RA rn rc, .int .i64 0] 100))
        generalize w6.alloc (.cells #[.slice RA rn rc, .int .i64 0] 100) = w7 at *
        refine wp_region_T (fun _ => True) (fun _ => false) (by kernel_rfl) trivial (fun _ => ?_)
        refine wpAnyT_take2 (i := 0) (v := ?_) rfl rfl (by kernel_rfl) (by kernel_rfl) (by kernel_rfl) (by kernel_rfl) (fun _ _ _ h => h) (Or.inl ⟨by rfl, ?_⟩) trivial ?_
        rotate_left
        · (intro w hSw; clear hSw; go_simp) <;> (with_reducible rfl)
        simp only [qsa, qsb, qsc]
        refine wpAnyT_take2 (i := 5) (v := ?_) rfl rfl (by kernel_rfl) (by kernel_rfl) (by kernel_rfl) (by kernel_rfl) (fun _ _ _ h => h) (Or.inl ⟨by rfl, ?_⟩) trivial ?_
        rotate_left
        · (intro w hSw; clear hSw; go_simp) <;> (with_reducible rfl)
        simp only [qsa, qsb, qsc]
        refine wpAnyT_take2 (i := 7) (v := ?_) rfl rfl (by kernel_rfl) (by kernel_rfl) (by kernel_rfl) (by kernel_rfl) (fun _ _ _ h => h) (Or.inl ⟨by rfl, ?_⟩) trivial ?_
        rotate_left
        · (intro w hSw; clear hSw; go_simp) <;> (with_reducible rfl)
        simp only [qsa, qsb, qsc]
        refine wpAnyT_switch (fun W => W.cell? ⟨w.heap.size + 1, 0, none⟩ = some (.slice lA ll.length lc) ∧ W.cell? ⟨w.heap.size + 1, 1, none⟩ = some (.slice uA ul.length uc) ∧ W.cell? ⟨gl, 0, none⟩ = some (.string xn) ∧ W.cell? ⟨gl, 1, none⟩ = some (.int .i64 xo) ∧ W.cell? ⟨gl, 2, none⟩ = some (.int .i64 xm) ∧ W.cell? ⟨gl, 3, none⟩ = some (.int .i64 xu) ∧ W.cell? ⟨gl, 4, none⟩ = some (.string xs) ∧ W.cell? ⟨gl, 5, none⟩ = some (.slice xA xl.length xc)) (fun i => 11 ≤ i) HS7.out.drew.cells8 (fun hHeld => ?_)
        refine qtq 1 ?_
        simp only [qsa, qsb, qsc]
        refine qtq 2 ?_
        simp only [qsa, qsb, qsc]
        refine qtq 6 ?_
        simp only [qsa, qsb, qsc]
        clear hHeld
        have HS8 := Lib.hid HS7.out.drew
        clear HS7
        generalize w7.drew = w8 at *
        have hll : ll.length ≤ 20 := by
          have h := HLL.out
          (try simp only at h)
          rw [h, List.length_take]
          omega
        have hul : ul.length ≤ 20 := by
          have h := HUL.out
          (try simp only at h)
          rw [h, scN_len _ _ (by omega)]
          omega
        apply cutT
        · intro fin0
          have FIN := Lib.hid fin0
          clear fin0
          refine wpAnyT_two (i := 3) (j := 8) (by kernel_rfl) rfl rfl ?_ ?_
          · skip
            go_wp2_with fail
            refine And.intro (by first | exact fun _ => (HS8.out.alloc _).cells8 | exact (HS8.out.alloc _).cells8) ?_
            have HSa := Lib.hid (HS8.out.alloc (.cells #[.string xn, .int .i64 xo, .int .i64 xm, .int .i64 xu, .string xs, .slice xA xl.length xc] 57))
            have HGa : Hid (Blk (w8.alloc (.cells #[.string xn, .int .i64 xo, .int .i64 xm, .int .i64 xu, .string xs, .slice xA xl.length xc] 57)) w8.heap.size 57 (LT.enc ⟨xn, xo, xm, xu, xs, xA, xc, xl⟩).toArray) := Lib.hid (Blk.new _ _ _)
            have HLO : Hid (∀ k, lA = some ⟨k, 0, none⟩ → k < w8.heap.size) := Lib.hid HS8.out.own.bound
            have HUO2 : Hid (∀ k, uA = some ⟨k, 0, none⟩ → k < w8.heap.size) := Lib.hid HS8.out.ous.bound
            have hsa : (w8.alloc (.cells #[.string xn, .int .i64 xo, .int .i64 xm, .int .i64 xu, .string xs, .slice xA xl.length xc] 57)).heap.size ≥ w8.heap.size := by simp
            generalize w8.alloc (.cells #[.string xn, .int .i64 xo, .int .i64 xm, .int .i64 xu, .string xs, .slice xA xl.length xc] 57) = wa at *
            generalize w8.heap.size = ga at *
            refine wpAnyT_two (i := 4) (j := 8) (by kernel_rfl) rfl rfl ?_ ?_
            · refine wpl_append_sl _ rfl (.tmp 25) (.tmp 27) _ rfl Tryz.underlying22 infoLet (by omega) LT.enc_k LT.enc_one ⟨lA, lc, ll⟩ ⟨some ⟨ga, 0, none⟩, 1, [⟨xn, xo, xm, xu, xs, xA, xc, xl⟩]⟩ rfl rfl HSa.out.own (rd_one6 HGa.out) (by simp [maxLen]; omega) (by simp; omega) HSa.out.ge.2.2 ?_
              intro A9 c9 w9 hown9 hg9 hA9
              have HS9 := Lib.hid (HSa.out.letApp hown9 hg9 hA9)
              have hs9 : ga ≤ w9.heap.size := by have := hg9.size; omega
              clear hown9 hg9 hA9
              go_wp2_with fail
              refine And.intro (by first | exact fun _ => HS9.out.cells8 | exact HS9.out.cells8) ?_
              have hHeld := HS9.out.cells8
              refine qtq 10 ?_
              simp only [qsa, qsb, qsc]
              clear hHeld
              refine wpAnyT_next (i := 8) (by kernel_rfl) rfl ?_
              go_wp2_with fail
              refine And.intro (by first | exact fun _ => (HS9.out.alloc _).cells8 | exact (HS9.out.alloc _).cells8) ?_
              have HSc := Lib.hid (HS9.out.alloc (.cells #[.int .i64 V.1] 3))
              have HGu : Hid (Blk (w9.alloc (.cells #[.int .i64 V.1] 3)) w9.heap.size 3 #[.int .i64 V.1]) := Lib.hid (Blk.new _ _ _)
              have HNU : Hid (∀ k, uA = some ⟨k, 0, none⟩ → k ≠ w9.heap.size) := Lib.hid (fun k hk => by have := HUO2.out k hk; omega)
              clear HSa HGa HLO HUO2 HS9 hs9 hsa
              generalize w9.alloc (.cells #[.int .i64 V.1] 3) = wc at *
              generalize w9.heap.size = gu at *
              revert HNU
              revert HGu
              revert HSc
              revert wc
              revert gu
              revert c9
              revert A9
              revert ga
              exact FIN.out
            · skip
              go_wp2_with fail
              refine And.intro (by first | exact fun _ => (HSa.out.alloc _).cells8 | exact (HSa.out.alloc _).cells8) ?_
              have HSb := Lib.hid (HSa.out.alloc (.cells #[.int .i64 V.1] 3))
              have HGb : Hid (Blk (wa.alloc (.cells #[.int .i64 V.1] 3)) ga 57 (LT.enc ⟨xn, xo, xm, xu, xs, xA, xc, xl⟩).toArray) := Lib.hid (HGa.out.alloc _)
              have HGu : Hid (Blk (wa.alloc (.cells #[.int .i64 V.1] 3)) wa.heap.size 3 #[.int .i64 V.1]) := Lib.hid (Blk.new _ _ _)
              have HNU : Hid (∀ k, uA = some ⟨k, 0, none⟩ → k ≠ wa.heap.size) := Lib.hid (fun k hk => by have := HUO2.out k hk; omega)
              have HNL : Hid (∀ k, lA = some ⟨k, 0, none⟩ → k ≠ wa.heap.size) := Lib.hid (fun k hk => by have := HLO.out k hk; omega)
              generalize wa.alloc (.cells #[.int .i64 V.1] 3) = wb at *
              generalize wa.heap.size = gu at *
              refine wpAnyT_next (i := 4) (by kernel_rfl) rfl ?_
              refine wpl_append_sl _ rfl (.tmp 25) (.tmp 27) _ rfl Tryz.underlying22 infoLet (by omega) LT.enc_k LT.enc_one ⟨lA, lc, ll⟩ ⟨some ⟨ga, 0, none⟩, 1, [⟨xn, xo, xm, xu, xs, xA, xc, xl⟩]⟩ rfl rfl HSb.out.own (rd_one6 HGb.out) (by simp [maxLen]; omega) (by simp; omega) HSb.out.ge.2.2 ?_
              intro A9 c9 w9 hown9 hg9 hA9
              have HS9 := Lib.hid (HSb.out.letApp hown9 hg9 hA9)
              have HGu9 := Lib.hid (HGu.out.grown hg9 (fun hc => HNL.out _ (own_addr HSb.out.own _ hc.symm) rfl))
              go_wp2_with fail
              refine And.intro (by first | exact fun _ => HS9.out.cells8 | exact HS9.out.cells8) ?_
              have hHeld := HS9.out.cells8
              refine qtq 10 ?_
              simp only [qsa, qsb, qsc]
              clear hHeld
              exact wpAnyT_listed (by kernel_rfl) (FIN.out _ _ _ _ _ HS9 HGu9 HNU)
          · skip
            go_wp2_with fail
            refine And.intro (by first | exact fun _ => (HS8.out.alloc _).cells8 | exact (HS8.out.alloc _).cells8) ?_
            have HSa := Lib.hid (HS8.out.alloc (.cells #[.int .i64 V.1] 3))
            have HGu : Hid (Blk (w8.alloc (.cells #[.int .i64 V.1] 3)) w8.heap.size 3 #[.int .i64 V.1]) := Lib.hid (Blk.new _ _ _)
            have HLO : Hid (∀ k, lA = some ⟨k, 0, none⟩ → k ≠ w8.heap.size) := Lib.hid (fun k hk => by have := HS8.out.own.bound k hk; omega)
            have HNU : Hid (∀ k, uA = some ⟨k, 0, none⟩ → k ≠ w8.heap.size) := Lib.hid (fun k hk => by have := HS8.out.ous.bound k hk; omega)
            generalize w8.alloc (.cells #[.int .i64 V.1] 3) = wa at *
            generalize w8.heap.size = gu at *
            refine wpAnyT_next (i := 3) (by kernel_rfl) rfl ?_
            go_wp2_with fail
            refine And.intro (by first | exact fun _ => (HSa.out.alloc _).cells8 | exact (HSa.out.alloc _).cells8) ?_
            have HSb := Lib.hid (HSa.out.alloc (.cells #[.string xn, .int .i64 xo, .int .i64 xm, .int .i64 xu, .string xs, .slice xA xl.length xc] 57))
            have HGb : Hid (Blk (wa.alloc (.cells #[.string xn, .int .i64 xo, .int .i64 xm, .int .i64 xu, .string xs, .slice xA xl.length xc] 57)) wa.heap.size 57 (LT.enc ⟨xn, xo, xm, xu, xs, xA, xc, xl⟩).toArray) := Lib.hid (Blk.new _ _ _)
            have HGub := Lib.hid (HGu.out.alloc (.cells #[.string xn, .int .i64 xo, .int .i64 xm, .int .i64 xu, .string xs, .slice xA xl.length xc] 57))
            generalize wa.alloc (.cells #[.string xn, .int .i64 xo, .int .i64 xm, .int .i64 xu, .string xs, .slice xA xl.length xc] 57) = wb at *
            generalize wa.heap.size = ga at *
            refine wpAnyT_next (i := 4) (by kernel_rfl) rfl ?_
            refine wpl_append_sl _ rfl (.tmp 25) (.tmp 27) _ rfl Tryz.underlying22 infoLet (by omega) LT.enc_k LT.enc_one ⟨lA, lc, ll⟩ ⟨some ⟨ga, 0, none⟩, 1, [⟨xn, xo, xm, xu, xs, xA, xc, xl⟩]⟩ rfl rfl HSb.out.own (rd_one6 HGb.out) (by simp [maxLen]; omega) (by simp; omega) HSb.out.ge.2.2 ?_
            intro A9 c9 w9 hown9 hg9 hA9
            have HS9 := Lib.hid (HSb.out.letApp hown9 hg9 hA9)
            have HGu9 := Lib.hid (HGub.out.grown hg9 (fun hc => HLO.out _ (own_addr HSb.out.own _ hc.symm) rfl))
            go_wp2_with fail
            refine And.intro (by first | exact fun _ => HS9.out.cells8 | exact HS9.out.cells8) ?_
            have hHeld := HS9.out.cells8
            refine qtq 10 ?_
            simp only [qsa, qsb, qsc]
            clear hHeld
            exact wpAnyT_listed (by kernel_rfl) (FIN.out _ _ _ _ _ HS9 HGu9 HNU)
        · intro ga A9 c9 gu wc HSc HGu HNU
          clear HS8
          refine wpAnyT_next (i := 9) (by kernel_rfl) rfl ?_
          refine wpl_append_sl _ rfl (.tmp 30) (.tmp 32) _ rfl Tryz.underlying60 infoInt (by omega) ienc_k ienc_one ⟨uA, uc, ul⟩ ⟨some ⟨gu, 0, none⟩, 1, [V.1]⟩ rfl rfl HSc.out.ous (rd_one HGu.out) (by simp [maxLen]; omega) (by simp; omega) HSc.out.ge.2.2 ?_
          intro A2 c2 w9 hown9 hg9 hA9
          have HS9 := Lib.hid (HSc.out.unitApp hown9 hg9 hA9)
          have hgz : w.heap.size + 1 < w9.heap.size := HS9.out.b1.lt
          obtain ⟨s0, s1, sf, sz⟩ := HS9.out.b1.b2
          clear hown9 hg9 hA9 HSc HGu HNU
          go_wp2_with fail
          refine And.intro (by first | exact fun _ => HS9.out.cells8 | exact HS9.out.cells8) ?_
          refine wpAnyT_next (i := 11) (by kernel_rfl) rfl ?_
          go_wp2_with fail
          try simp only [QT]
          try (with_reducible refine And.intro (fun h => by simp at h) ?_)
          refine wpAnyT_next (i := 12) (by kernel_rfl) rfl ?_
          go_wp2_with fail
          try simp only [QT]
          try (with_reducible refine And.intro (fun h => by simp at h) ?_)
          refine wpAnyT_next (i := 13) (by kernel_rfl) rfl ?_
          go_wp2_with fail
          try simp only [QT]
          try (with_reducible refine And.intro (fun h => by simp at h) ?_)
          refine wpAnyT_done (by kernel_rfl) ?_ _
          go_wp2_with fail
          have hdone := HS9.out.done HN0.out
          simp only [List.length_append, List.length_singleton] at hdone
          have HDN := Lib.hid hdone
          clear hdone s0 s1 sf sz
          have hl2 : Hid (ll ++ [⟨xn, xo, xm, xu, xs, xA, xc, xl⟩] = L.l.take (j + 1)) := Lib.hid (by rw [HTK.out]; have h := HLL.out; (try simp only at h); rw [h])
          have hu2 : Hid (ul ++ [V.1] = scN L.l (j + 1)) := Lib.hid (by rw [HSV.out, HUO.out]; have h := HUL.out; (try simp only at h); rw [h])
          go_roundw
          case rel => exact ⟨j + 1, ⟨A9, c9, ll ++ [⟨xn, xo, xm, xu, xs, xA, xc, xl⟩]⟩, ⟨A2, c2, ul ++ [V.1]⟩, by omega, by go_num, HDN, hl2, hu2⟩
          case measure => simp [intOf]; omega
      · have HUO : Hid (uo V = -1) := Lib.hid (by unfold uo; rw [if_neg hv2])
        rw [if_neg hv2]
        go_wp2_with fail
        have HS7 := Lib.hid (HS6.out.alloc (.cells #[.slice RA rn rc, .int .i64 V.2] 100))
        generalize w6.alloc (.cells #[.slice RA rn rc, .int .i64 V.2] 100) = w7 at *
        refine wp_region_T (fun _ => True) (fun _ => false) (by kernel_rfl) trivial (fun _ => ?_)
        refine wpAnyT_take2 (i := 0) (v := ?_) rfl rfl (by kernel_rfl) (by kernel_rfl) (by kernel_rfl) (by kernel_rfl) (fun _ _ _ h => h) (Or.inl ⟨by rfl, ?_⟩) trivial ?_
        rotate_left
        · (intro w hSw; clear hSw; go_simp) <;> (with_reducible rfl)
        simp only [qsa, qsb, qsc]
        refine wpAnyT_take2 (i := 5) (v := ?_) rfl rfl (by kernel_rfl) (by kernel_rfl) (by kernel_rfl) (by kernel_rfl) (fun _ _ _ h => h) (Or.inl ⟨by rfl, ?_⟩) trivial ?_
        rotate_left
        · (intro w hSw; clear hSw; go_simp) <;> (with_reducible rfl)
        simp only [qsa, qsb, qsc]
        refine wpAnyT_take2 (i := 7) (v := ?_) rfl rfl (by kernel_rfl) (by kernel_rfl) (by kernel_rfl) (by kernel_rfl) (fun _ _ _ h => h) (Or.inl ⟨by rfl, ?_⟩) trivial ?_
        rotate_left
        · (intro w hSw; clear hSw; go_simp) <;> (with_reducible rfl)
        simp only [qsa, qsb, qsc]
        refine wpAnyT_switch (fun W => W.cell? ⟨w.heap.size + 1, 0, none⟩ = some (.slice lA ll.length lc) ∧ W.cell? ⟨w.heap.size + 1, 1, none⟩ = some (.slice uA ul.length uc) ∧ W.cell? ⟨gl, 0, none⟩ = some (.string xn) ∧ W.cell? ⟨gl, 1, none⟩ = some (.int .i64 xo) ∧ W.cell? ⟨gl, 2, none⟩ = some (.int .i64 xm) ∧ W.cell? ⟨gl, 3, none⟩ = some (.int .i64 xu) ∧ W.cell? ⟨gl, 4, none⟩ = some (.string xs) ∧ W.cell? ⟨gl, 5, none⟩ = some (.slice xA xl.length xc)) (fun i => 11 ≤ i) HS7.out.drew.cells8 (fun hHeld => ?_)
        refine qtq 1 ?_
        simp only [qsa, qsb, qsc]
        refine qtq 2 ?_
        simp only [qsa, qsb, qsc]
        refine qtq 6 ?_
        simp only [qsa, qsb, qsc]
        clear hHeld
        have HS8 := Lib.hid HS7.out.drew
        clear HS7
        generalize w7.drew = w8 at *
        have hll : ll.length ≤ 20 := by
          have h := HLL.out
          (try simp only at h)
          rw [h, List.length_take]
          omega
        have hul : ul.length ≤ 20 := by
          have h := HUL.out
          (try simp only at h)
          rw [h, scN_len _ _ (by omega)]
          omega
        apply cutT
        · intro fin0
          have FIN := Lib.hid fin0
          clear fin0
          refine wpAnyT_two (i := 3) (j := 8) (by kernel_rfl) rfl rfl ?_ ?_
          · skip
            go_wp2_with fail
            refine And.intro (by first | exact fun _ => (HS8.out.alloc _).cells8 | exact (HS8.out.alloc _).cells8) ?_
            have HSa := Lib.hid (HS8.out.alloc (.cells #[.string xn, .int .i64 xo, .int .i64 xm, .int .i64 xu, .string xs, .slice xA xl.length xc] 57))
            have HGa : Hid (Blk (w8.alloc (.cells #[.string xn, .int .i64 xo, .int .i64 xm, .int .i64 xu, .string xs, .slice xA xl.length xc] 57)) w8.heap.size 57 (LT.enc ⟨xn, xo, xm, xu, xs, xA, xc, xl⟩).toArray) := Lib.hid (Blk.new _ _ _)
            have HLO : Hid (∀ k, lA = some ⟨k, 0, none⟩ → k < w8.heap.size) := Lib.hid HS8.out.own.bound
            have HUO2 : Hid (∀ k, uA = some ⟨k, 0, none⟩ → k < w8.heap.size) := Lib.hid HS8.out.ous.bound
            have hsa : (w8.alloc (.cells #[.string xn, .int .i64 xo, .int .i64 xm, .int .i64 xu, .string xs, .slice xA xl.length xc] 57)).heap.size ≥ w8.heap.size := by simp
            generalize w8.alloc (.cells #[.string xn, .int .i64 xo, .int .i64 xm, .int .i64 xu, .string xs, .slice xA xl.length xc] 57) = wa at *
            generalize w8.heap.size = ga at *
            refine wpAnyT_two (i := 4) (j := 8) (by kernel_rfl) rfl rfl ?_ ?_
            · refine wpl_append_sl _ rfl (.tmp 25) (.tmp 27) _ rfl Tryz.underlying22 infoLet (by omega) LT.enc_k LT.enc_one ⟨lA, lc, ll⟩ ⟨some ⟨ga, 0, none⟩, 1, [⟨xn, xo, xm, xu, xs, xA, xc, xl⟩]⟩ rfl rfl HSa.out.own (rd_one6 HGa.out) (by simp [maxLen]; omega) (by simp; omega) HSa.out.ge.2.2 ?_
              intro A9 c9 w9 hown9 hg9 hA9
              have HS9 := Lib.hid (HSa.out.letApp hown9 hg9 hA9)
              have hs9 : ga ≤ w9.heap.size := by have := hg9.size; omega
              clear hown9 hg9 hA9
              go_wp2_with fail
              refine And.intro (by first | exact fun _ => HS9.out.cells8 | exact HS9.out.cells8) ?_
              have hHeld := HS9.out.cells8
              refine qtq 10 ?_
              simp only [qsa, qsb, qsc]
              clear hHeld
              refine wpAnyT_next (i := 8) (by kernel_rfl) rfl ?_
              go_wp2_with fail
              refine And.intro (by first | exact fun _ => (HS9.out.alloc _).cells8 | exact (HS9.out.alloc _).cells8) ?_
              have HSc := Lib.hid (HS9.out.alloc (.cells #[.int .i64 (-1)] 3))
              have HGu : Hid (Blk (w9.alloc (.cells #[.int .i64 (-1)] 3)) w9.heap.size 3 #[.int .i64 (-1)]) := Lib.hid (Blk.new _ _ _)
              have HNU : Hid (∀ k, uA = some ⟨k, 0, none⟩ → k ≠ w9.heap.size) := Lib.hid (fun k hk => by have := HUO2.out k hk; omega)
              clear HSa HGa HLO HUO2 HS9 hs9 hsa
              generalize w9.alloc (.cells #[.int .i64 (-1)] 3) = wc at *
              generalize w9.heap.size = gu at *
              revert HNU
              revert HGu
              revert HSc
              revert wc
              revert gu
              revert c9
              revert A9
              revert ga
              exact FIN.out
            · skip
              go_wp2_with fail
              refine And.intro (by first | exact fun _ => (HSa.out.alloc _).cells8 | exact (HSa.out.alloc _).cells8) ?_
              have HSb := Lib.hid (HSa.out.alloc (.cells #[.int .i64 (-1)] 3))
              have HGb : Hid (Blk (wa.alloc (.cells #[.int .i64 (-1)] 3)) ga 57 (LT.enc ⟨xn, xo, xm, xu, xs, xA, xc, xl⟩).toArray) := Lib.hid (HGa.out.alloc _)
              have HGu : Hid (Blk (wa.alloc (.cells #[.int .i64 (-1)] 3)) wa.heap.size 3 #[.int .i64 (-1)]) := Lib.hid (Blk.new _ _ _)
              have HNU : Hid (∀ k, uA = some ⟨k, 0, none⟩ → k ≠ wa.heap.size) := Lib.hid (fun k hk => by have := HUO2.out k hk; omega)
              have HNL : Hid (∀ k, lA = some ⟨k, 0, none⟩ → k ≠ wa.heap.size) := Lib.hid (fun k hk => by have := HLO.out k hk; omega)
              generalize wa.alloc (.cells #[.int .i64 (-1)] 3) = wb at *
              generalize wa.heap.size = gu at *
              refine wpAnyT_next (i := 4) (by kernel_rfl) rfl ?_
              refine wpl_append_sl _ rfl (.tmp 25) (.tmp 27) _ rfl Tryz.underlying22 infoLet (by omega) LT.enc_k LT.enc_one ⟨lA, lc, ll⟩ ⟨some ⟨ga, 0, none⟩, 1, [⟨xn, xo, xm, xu, xs, xA, xc, xl⟩]⟩ rfl rfl HSb.out.own (rd_one6 HGb.out) (by simp [maxLen]; omega) (by simp; omega) HSb.out.ge.2.2 ?_
              intro A9 c9 w9 hown9 hg9 hA9
              have HS9 := Lib.hid (HSb.out.letApp hown9 hg9 hA9)
              have HGu9 := Lib.hid (HGu.out.grown hg9 (fun hc => HNL.out _ (own_addr HSb.out.own _ hc.symm) rfl))
              go_wp2_with fail
              refine And.intro (by first | exact fun _ => HS9.out.cells8 | exact HS9.out.cells8) ?_
              have hHeld := HS9.out.cells8
              refine qtq 10 ?_
              simp only [qsa, qsb, qsc]
              clear hHeld
              exact wpAnyT_listed (by kernel_rfl) (FIN.out _ _ _ _ _ HS9 HGu9 HNU)
          · skip
            go_wp2_with fail
            refine And.intro (by first | exact fun _ => (HS8.out.alloc _).cells8 | exact (HS8.out.alloc _).cells8) ?_
            have HSa := Lib.hid (HS8.out.alloc (.cells #[.int .i64 (-1)] 3))
            have HGu : Hid (Blk (w8.alloc (.cells #[.int .i64 (-1)] 3)) w8.heap.size 3 #[.int .i64 (-1)]) := Lib.hid (Blk.new _ _ _)
            have HLO : Hid (∀ k, lA = some ⟨k, 0, none⟩ → k ≠ w8.heap.size) := Lib.hid (fun k hk => by have := HS8.out.own.bound k hk; omega)
            have HNU : Hid (∀ k, uA = some ⟨k, 0, none⟩ → k ≠ w8.heap.size) := Lib.hid (fun k hk => by have := HS8.out.ous.bound k hk; omega)
            generalize w8.alloc (.cells #[.int .i64 (-1)] 3) = wa at *
            generalize w8.heap.size = gu at *
            refine wpAnyT_next (i := 3) (by kernel_rfl) rfl ?_
            go_wp2_with fail
            refine And.intro (by first | exact fun _ => (HSa.out.alloc _).cells8 | exact (HSa.out.alloc _).cells8) ?_
            have HSb := Lib.hid (HSa.out.alloc (.cells #[.string xn, .int .i64 xo, .int .i64 xm, .int .i64 xu, .string xs, .slice xA xl.length xc] 57))
            have HGb : Hid (Blk (wa.alloc (.cells #[.string xn, .int .i64 xo, .int .i64 xm, .int .i64 xu, .string xs, .slice xA xl.length xc] 57)) wa.heap.size 57 (LT.enc ⟨xn, xo, xm, xu, xs, xA, xc, xl⟩).toArray) := Lib.hid (Blk.new _ _ _)
            have HGub := Lib.hid (HGu.out.alloc (.cells #[.string xn, .int .i64 xo, .int .i64 xm, .int .i64 xu, .string xs, .slice xA xl.length xc] 57))
            generalize wa.alloc (.cells #[.string xn, .int .i64 xo, .int .i64 xm, .int .i64 xu, .string xs, .slice xA xl.length xc] 57) = wb at *
            generalize wa.heap.size = ga at *
            refine wpAnyT_next (i := 4) (by kernel_rfl) rfl ?_
            refine wpl_append_sl _ rfl (.tmp 25) (.tmp 27) _ rfl Tryz.underlying22 infoLet (by omega) LT.enc_k LT.enc_one ⟨lA, lc, ll⟩ ⟨some ⟨ga, 0, none⟩, 1, [⟨xn, xo, xm, xu, xs, xA, xc, xl⟩]⟩ rfl rfl HSb.out.own (rd_one6 HGb.out) (by simp [maxLen]; omega) (by simp; omega) HSb.out.ge.2.2 ?_
            intro A9 c9 w9 hown9 hg9 hA9
            have HS9 := Lib.hid (HSb.out.letApp hown9 hg9 hA9)
            have HGu9 := Lib.hid (HGub.out.grown hg9 (fun hc => HLO.out _ (own_addr HSb.out.own _ hc.symm) rfl))
            go_wp2_with fail
            refine And.intro (by first | exact fun _ => HS9.out.cells8 | exact HS9.out.cells8) ?_
            have hHeld := HS9.out.cells8
            refine qtq 10 ?_
            simp only [qsa, qsb, qsc]
            clear hHeld
            exact wpAnyT_listed (by kernel_rfl) (FIN.out _ _ _ _ _ HS9 HGu9 HNU)
        · intro ga A9 c9 gu wc HSc HGu HNU
          clear HS8
          refine wpAnyT_next (i := 9) (by kernel_rfl) rfl ?_
          refine wpl_append_sl _ rfl (.tmp 30) (.tmp 32) _ rfl Tryz.underlying60 infoInt (by omega) ienc_k ienc_one ⟨uA, uc, ul⟩ ⟨some ⟨gu, 0, none⟩, 1, [(-1)]⟩ rfl rfl HSc.out.ous (rd_one HGu.out) (by simp [maxLen]; omega) (by simp; omega) HSc.out.ge.2.2 ?_
          intro A2 c2 w9 hown9 hg9 hA9
          have HS9 := Lib.hid (HSc.out.unitApp hown9 hg9 hA9)
          have hgz : w.heap.size + 1 < w9.heap.size := HS9.out.b1.lt
          obtain ⟨s0, s1, sf, sz⟩ := HS9.out.b1.b2
          clear hown9 hg9 hA9 HSc HGu HNU
          go_wp2_with fail
          refine And.intro (by first | exact fun _ => HS9.out.cells8 | exact HS9.out.cells8) ?_
          refine wpAnyT_next (i := 11) (by kernel_rfl) rfl ?_
          go_wp2_with fail
          try simp only [QT]
          try (with_reducible refine And.intro (fun h => by simp at h) ?_)
          refine wpAnyT_next (i := 12) (by kernel_rfl) rfl ?_
          go_wp2_with fail
          try simp only [QT]
          try (with_reducible refine And.intro (fun h => by simp at h) ?_)
          refine wpAnyT_next (i := 13) (by kernel_rfl) rfl ?_
          go_wp2_with fail
          try simp only [QT]
          try (with_reducible refine And.intro (fun h => by simp at h) ?_)
          refine wpAnyT_done (by kernel_rfl) ?_ _
          go_wp2_with fail
          have hdone := HS9.out.done HN0.out
          simp only [List.length_append, List.length_singleton] at hdone
          have HDN := Lib.hid hdone
          clear hdone s0 s1 sf sz
          have hl2 : Hid (ll ++ [⟨xn, xo, xm, xu, xs, xA, xc, xl⟩] = L.l.take (j + 1)) := Lib.hid (by rw [HTK.out]; have h := HLL.out; (try simp only at h); rw [h])
          have hu2 : Hid (ul ++ [(-1)] = scN L.l (j + 1)) := Lib.hid (by rw [HSV.out, HUO.out]; have h := HUL.out; (try simp only at h); rw [h])
          go_roundw
          case rel => exact ⟨j + 1, ⟨A9, c9, ll ++ [⟨xn, xo, xm, xu, xs, xA, xc, xl⟩]⟩, ⟨A2, c2, ul ++ [(-1)]⟩, by omega, by go_num, HDN, hl2, hu2⟩
          case measure => simp [intOf]; omega
    · obtain ⟨s0, s1, sf, sz⟩ := HI.out.b1.b2
      obtain ⟨r0, r1, rf, rz⟩ := HI.out.b0.b2
      have hjl : j = L.l.length := by omega
      have hl2 : Hid (ll = L.l) := Lib.hid (by have h := HLL.out; (try simp only at h); rw [h, hjl, List.take_length])
      have hu2 : Hid (ul = scU L.l) := Lib.hid (by have h := HUL.out; (try simp only at h); rw [h, hjl]; rfl)
      clear hjl
      go_wp2_with fail
      have hbb : Below w.heap.size w ((wr.setCell ⟨w.heap.size, 0, none⟩ (.slice lA ll.length lc)).setCell ⟨w.heap.size, 1, none⟩ (.slice uA ul.length uc)) := (HI.out.bel.setCell (Nat.le_refl _) _).setCell (Nat.le_refl _) _
      have hlo : w.heap.size < w.heap.size + 1 + 1 := by omega
      have hlets : LetsAt (· < ((wr.setCell ⟨w.heap.size, 0, none⟩ (.slice lA ll.length lc)).setCell ⟨w.heap.size, 1, none⟩ (.slice uA ul.length uc)).heap.size) ((wr.setCell ⟨w.heap.size, 0, none⟩ (.slice lA ll.length lc)).setCell ⟨w.heap.size, 1, none⟩ (.slice uA ul.length uc)) ⟨lA, lc, ll⟩ :=
        ⟨(((HI.out.own.far hlo _).far hlo _).rd LT.enc_k).mono (fun b hb => hb.2), fun y hy => (HL.out.later hbb).all y (by have h := hl2.out; (try simp only at hy); rw [h] at hy; exact hy)⟩
      have hun : Rd (· < ((wr.setCell ⟨w.heap.size, 0, none⟩ (.slice lA ll.length lc)).setCell ⟨w.heap.size, 1, none⟩ (.slice uA ul.length uc)).heap.size) 1 ienc ((wr.setCell ⟨w.heap.size, 0, none⟩ (.slice lA ll.length lc)).setCell ⟨w.heap.size, 1, none⟩ (.slice uA ul.length uc)) ⟨uA, uc, ul⟩ := (((HI.out.ous.far hlo _).far hlo _).rd ienc_k).mono (fun b hb => hb.2)
      try simp only [Exit.inBlock, Exit.then]
      refine bodyPost_ret (v := .agg #[.slice lA ll.length lc, .slice uA ul.length uc]) ?_ rfl ⟨⟨lA, lc, ll⟩, ⟨uA, uc, ul⟩, rfl, hl2.out, hu2.out, hlets, hun, hbb⟩
      simp [results, Tryz.results62, go_sem, r0, r1, rz]
end Go.Proofs.YtcgocdhhneckhaaGreat
