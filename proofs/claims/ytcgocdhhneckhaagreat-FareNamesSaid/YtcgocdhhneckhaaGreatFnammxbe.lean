/- Walks: the finder: is, let. -/
import Derived.Test.YtcgocdhhneckhaaGreatFnammxbd
namespace Go.Proofs.YtcgocdhhneckhaaGreat
open Go.RowKit
def ValIH (g m : Nat) (L : Sl LT) (T M : Sl FT) (n k : Nat) : Prop := ∀ (e : PT) (X : Nat → Prop) (E : List (Int × Value)) (W : World), okE k e = true → PT.At (Nm X W) W e → FnSt g m L T M X E W →
  Calls Tryz.prog 68 #[.pointer (some ⟨g, 0, none⟩), e.v, .int .i64 n] W fun r w' => FnP g m L T M X E n W w' (evN T.l M.l L.l n k e) r
theorem isF_sign {f : Frc} {r : FrR} (h : f.p.s = r.p.sign) : (f.p.s != 0) = isF r := by
  unfold isF
  rw [h]
  by_cases h0 : r.p = 0
  · simp [h0]
  · have : r.p.sign ≠ 0 := fun h => h0 (Int.sign_eq_zero_iff_zero.1 h)
    simp [h0, this]
set_option maxRecDepth 100000 in
set_option maxHeartbeats 800000 in
theorem ev_is (g m : Nat) (L : Sl LT) (T M : Sl FT) (n k : Nat) (ih : ValIH g m L T M n k) (e : PT) (X : Nat → Prop) (E : List (Int × Value)) (w : World) (hk : okE k e = true) (he : PT.At (Nm X w) w e) (hs : FnSt g m L T M X E w) :
    Calls Tryz.prog 107 #[.pointer (some ⟨g, 0, none⟩), e.v, .int .i64 n] w fun r w' => FnB g m L T M X E n w w' (evN T.l M.l L.l n k e) r := by
  have hcall := ih e X E (w.alloc (.cells e.enc.toArray 25)) hk (he.more qbl (Mor.refl _ _ _)) (hs.later qbl)
  obtain ⟨V, hV⟩ : ∃ V, evN T.l M.l L.l n k e = V := ⟨_, rfl⟩
  rw [hV] at hcall ⊢
  clear hV ih he hk hs
  have HB : Hid (Below w.heap.size w (w.alloc (.cells e.enc.toArray 25))) := Lib.hid qbl
  obtain ⟨o, a, u, s, A, c, l⟩ := e
  simp only [PT.v, PT.enc] at hcall HB ⊢
  go_enter Tryz.func107, Tryz.ntmps107
  go_wp2_with fail
  refine hcall.mono ?_
  clear hcall
  rintro e w2 ⟨hr, hst, hg⟩
  have HST := Lib.hid hst
  have HG : Hid (w.grownBy w2 (some m)) := Lib.hid (grown_trans (below_by HB.out _) hg)
  clear hst hg HB
  rcases hr with ⟨h0, f, rfl, hf⟩ | ⟨h0, he⟩
  · have HF := Lib.hid (isF_sign (f := f) (r := V) hf.dp.1)
    have H0 := Lib.hid h0
    clear hf h0
    simp only [Frc.v]
    have hq1 : ∀ w : World, (Instr.field 71 (Value.agg #[.int .i64 f.p.s, .slice f.p.l.A f.p.l.l.length f.p.l.c, .int .i64 f.q.s, .slice f.q.l.A f.q.l.l.length f.q.l.c]) 0).run Tryz.prog w = .ok (Value.agg #[.int .i64 f.p.s, .slice f.p.l.A f.p.l.l.length f.p.l.c]) w := fun _ => by kernel_rfl
    have hq2 : ∀ w : World, (Instr.field 69 (Value.agg #[.int .i64 f.p.s, .slice f.p.l.A f.p.l.l.length f.p.l.c]) 0).run Tryz.prog w = .ok (.int .i64 f.p.s) w := fun _ => by kernel_rfl
    go_wp2_with fail
    go_ret
    exact ⟨.inl ⟨H0.out, ret_bool HF.out⟩, HST.out, HG.out⟩
  · unfold ErrV at he
    subst he
    have H0 := Lib.hid h0
    clear h0
    go_wp2_with fail
    exact ⟨rfl, .inr ⟨H0.out, rfl⟩, HST.out, HG.out⟩
theorem evOf_at {L : List LT} {T M : List FT} {j : Nat} {x : LT} (h : L[j]? = some x) : evOf L T M j = evN T M L j 12 x.b := by
  unfold evOf
  rw [h]
section
variable {g m : Nat} {L : Sl LT} {T M : Sl FT} {X : Nat → Prop} {E : List (Int × Value)} {w w' : World}
theorem FnP.yesA {n a : Nat} {r : FrR} {f : Frc} {x y z v : Value} {o : Obj} (hs : FnSt g m L T M X E w) (hb : Below w.heap.size w w') (hf : RG (Nm X w) w' f r.p r.q) (h0 : r.e = 0) (ha : w.heap.size ≤ a) :
    FnP g m L T M X E n w (((((w'.setCell ⟨a, 0, none⟩ x).setCell ⟨a, 1, none⟩ y).setCell ⟨a, 2, none⟩ z).setCell ⟨a, 3, none⟩ v).alloc o) r (.returned f.v) := by
  have hb4 := (below_st4 (x := x) (y := y) (z := z) (v := v) hb ha).alloc (by have := hb.size; simpa using this) o
  have h1 := RG.oldX (x := x) (y := y) (z := z) (v := v) hf ha hb.size
  exact ⟨.inl ⟨h0, f, rfl, h1.more ((Below.refl _ _).alloc (Nat.le_refl _) o) (Mor.refl _ _ _)⟩, ⟨E, hs.later hb4, NewE.refl _ _⟩, below_by hb4 _⟩
theorem FnP.yesX {n a : Nat} {r : FrR} {f : Frc} {x y z v : Value} {Y : Nat → Prop} {E' : List (Int × Value)} (h0 : r.e = 0) (hf : RG (Nm Y w') w' f r.p r.q) (hs : FnSt g m L T M Y E' w') (ha : Y a) (hg : g ≠ a) (hm : m ≠ a) (hXY : ∀ b, X b → Y b) (hX : X m) (hne : NewE E E' n) (hw : w.grownBy w' (some m)) (hge : w.heap.size ≤ a) :
    FnP g m L T M X E n w ((((w'.setCell ⟨a, 0, none⟩ x).setCell ⟨a, 1, none⟩ y).setCell ⟨a, 2, none⟩ z).setCell ⟨a, 3, none⟩ v) r (.returned f.v) :=
  ⟨.inl ⟨h0, f, rfl, hf.stX ha hXY⟩, ⟨E', hs.stX ha hg hm hXY hX, hne⟩, grown_st4 hw hge⟩
theorem NewE.mono {E' : List (Int × Value)} {j n : Nat} (h : NewE E E' j) (hjn : j ≤ n) : NewE E E' n := fun p hp => (h p hp).imp id (fun h => by omega)
end
set_option maxRecDepth 100000 in
set_option maxHeartbeats 3200000 in
theorem ev_let (g m : Nat) (L : Sl LT) (T M : Sl FT) (n : Nat) (hn : n ≤ L.l.length) (ih : ∀ j, j < n → ValIH g m L T M j 12) (hok : ∀ x, x ∈ L.l → okE 12 x.b = true) (s : ByteArray) (X : Nat → Prop) (E : List (Int × Value)) (w : World) (hs : FnSt g m L T M X E w) :
    Calls Tryz.prog 104 #[.pointer (some ⟨g, 0, none⟩), .string s, .int .i64 n] w fun r w' => FnP g m L T M X E n w w' (lkF s (L.l.take n) (lvN T.l M.l L.l n)) r := by
  have HS := Lib.hid hs
  have HI := Lib.hid ih
  have HOK := Lib.hid hok
  have hlc := hs.lets.rd.lecap
  have hcm := hs.lets.rd.cap
  have hlen : (L.l.take n).length = n := by rw [List.length_take]; omega
  have HLN := Lib.hid hlen
  obtain ⟨f0, f1, f2, f3, ff, fz⟩ := hs.blk.b4
  clear hs ih hok hlen
  go_enter Tryz.func104, Tryz.ntmps104
  go_wp2_with fail
  have HB : Hid (Below w.heap.size w ((w.alloc (.cells #[.string s] 9)).alloc (.cells #[.int .i64 0, .slice none 0 0, .int .i64 0, .slice none 0 0] 71))) := Lib.hid qbl
  have HC : Hid (Blk ((w.alloc (.cells #[.string s] 9)).alloc (.cells #[.int .i64 0, .slice none 0 0, .int .i64 0, .slice none 0 0] 71)) w.heap.size 9 #[.string s]) := Lib.hid ((Blk.new _ _ _).alloc _)
  have HD : Hid (Blk ((w.alloc (.cells #[.string s] 9)).alloc (.cells #[.int .i64 0, .slice none 0 0, .int .i64 0, .slice none 0 0] 71)) (w.heap.size + 1) 71 #[.int .i64 0, .slice none 0 0, .int .i64 0, .slice none 0 0]) := Lib.hid (Blk.new' (by simp))
  generalize (w.alloc (.cells #[.string s] 9)).alloc (.cells #[.int .i64 0, .slice none 0 0, .int .i64 0, .slice none 0 0] 71) = w1 at *
  have HS1 := Lib.hid (HS.out.later HB.out)
  have hcon := idxL_le ⟨L.A, L.c, L.l.take n⟩ (fun x => sameB x.nm s) w.heap.size w1 ((HS1.out.lets.rd.mono nm_lt).takeN n) (fun W x _ hW => ev_let1 x s _ W (HC.out.later hW).b1.1 (HC.out.later hW).lt)
  simp only [HLN.out] at hcon
  clear f0 f1 f2 f3 ff fz
  rcases idxP_ge (fun x : LT => sameB x.nm s) (L.l.take n) 0 with ⟨h1, h2⟩ | ⟨j, x, h1, h2, h3, h4⟩
  · rw [h1] at hcon
    have HF := Lib.hid (lkF_none (V := lvN T.l M.l L.l n) h2)
    clear h1 h2
    refine hcon.mono ?_
    clear hcon
    rintro e w3 ⟨rfl, hb3⟩
    have hB : Below w.heap.size w w3 := HB.out.trans (hb3.mono HB.out.size)
    clear hb3
    go_wp2_with fail
    exact ⟨rfl, FnP.cast HF.out ⟨.inr ⟨by decide, rfl⟩, ⟨E, HS.out.later hB, NewE.refl _ _⟩, below_by hB _⟩⟩
  · have hjn : j < n := by
      have := (List.getElem?_eq_some_iff.1 h2).1
      rw [HLN.out] at this
      exact this
    have hxj : L.l[j]? = some x := by rw [List.getElem?_take, if_pos hjn] at h2; exact h2
    rw [h1, Nat.zero_add] at hcon
    have HLK := Lib.hid ((lk_let T.l M.l hn h2 h3 h4).trans (evOf_at hxj).symm)
    have HXJ := Lib.hid hxj
    have hI64 : I64 (j : Int) := by have := hlc; unfold I64; omega
    clear h1 h2 h3 h4 hxj
    refine hcon.mono ?_
    clear hcon
    rintro e w3 ⟨rfl, hb3⟩
    have HB3 : Hid (Below w.heap.size w w3) := Lib.hid (HB.out.trans (hb3.mono HB.out.size))
    have HD3 := Lib.hid (HD.out.later hb3)
    have HS3 := Lib.hid (HS.out.later HB3.out)
    have hjl : j < L.l.length := by omega
    clear hb3 HS1 HC HD HB
    obtain ⟨f0, f1, f2, f3, ff, fz⟩ := HS3.out.blk.b4
    obtain ⟨r0, r1, r2, r3, rf, rz⟩ := HD3.out.b4
    have hm3 := HS3.out.mw
    have hz3 : w.heap.size + 1 < w3.heap.size := rz
    by_cases hin : ∃ p, p ∈ E ∧ p.1 = (j : Int)
    · obtain ⟨p, hp, hpj⟩ := hin
      obtain ⟨k, f, hk, hv, he0, hfr⟩ := HS.out.memo p hp
      obtain rfl : k = j := by omega
      have HV : Hid (((k : Int), Value.agg #[.int .i64 f.p.s, .slice f.p.l.A f.p.l.l.length f.p.l.c, .int .i64 f.q.s, .slice f.q.l.A f.q.l.l.length f.q.l.c]) ∈ E) := Lib.hid (by
        have : p = ((k : Int), f.v) := by rw [← hpj, ← hv]
        rw [this] at hp
        exact hp)
      have HU : Hid (∀ q, q ∈ E → q.1 = (k : Int) → q.2 = Value.agg #[.int .i64 f.p.s, .slice f.p.l.A f.p.l.l.length f.p.l.c, .int .i64 f.q.s, .slice f.q.l.A f.q.l.l.length f.q.l.c]) := Lib.hid (fun q hq hqk => by rw [HS.out.uniq q _ hq HV.out hqk])
      have HFR : Hid (RG (Nm X w) w3 f (evOf L.l T.l M.l k).p (evOf L.l T.l M.l k).q) := Lib.hid (hfr.keep (fun b hb => HB3.out.block b hb.1))
      have HE0 := Lib.hid he0
      have hw3 := HB3.out.size
      clear hfr he0 hv hk hp hpj
      go_wp2_with (at_lookup; refine wpl_look_yes rfl (.tmp 25) (.tmp 26) 109 rfl 71 (.agg #[.int .i64 f.p.s, .slice f.p.l.A f.p.l.l.length f.p.l.c, .int .i64 f.q.s, .slice f.q.l.A f.q.l.l.length f.q.l.c]) Tryz.underlying109 HS3.out.map rfl rfl hI64 HV.out HU.out ?_)
      try simp only [Exit.inBlock, Exit.then]
      refine bodyPost_ret (v := .agg #[.int .i64 f.p.s, .slice f.p.l.A f.p.l.l.length f.p.l.c, .int .i64 f.q.s, .slice f.q.l.A f.q.l.l.length f.q.l.c]) ?_ rfl (FnP.cast HLK.out (FnP.yesA HS.out HB3.out HFR.out HE0.out (Nat.le_succ _)))
      simp [results, Tryz.results104, go_sem, r0, r1, r2, r3, rz]
    · have HNO : Hid (∀ p, p ∈ E → p.1 ≠ (j : Int)) := Lib.hid (fun p hp hc => hin ⟨p, hp, hc⟩)
      clear hin
      have hxat := Lib.hid (HS3.out.lets.all x (List.mem_of_getElem? HXJ.out)).b
      obtain ⟨b, q, hA, hb, hcl⟩ := HS3.out.lets.rd.2.2.2 j x HXJ.out
      have hok := HOK.out x (List.mem_of_getElem? HXJ.out)
      have HOX := Lib.hid hok
      rw [hA] at f0
      obtain ⟨xn, xo, xm, xu, xs, xA, xc, xl⟩ := x
      obtain ⟨g0, g1, g2, g3, g4, g5⟩ := Cells.c6 hcl
      have hbl := hb.1
      clear hcl hok hb
      simp only at HOX hxat
      go_wp2_with (at_lookup; refine wpl_look_no rfl (.tmp 25) (.tmp 26) 109 rfl 71 _ Tryz.underlying109 Tryz.zeroValue71 HS3.out.map rfl rfl hI64 HNO.out ?_)
      obtain ⟨Y, hY⟩ : ∃ Y : Nat → Prop, Y = fun b => X b ∨ b = w.heap.size + 1 ∨ b = w3.heap.size := ⟨_, rfl⟩
      have hw3 := HB3.out.size
      have hXY : ∀ b, X b → Y b := fun b hb => by rw [hY]; exact .inl hb
      have hYr : Y (w.heap.size + 1) := by rw [hY]; exact .inr (.inl rfl)
      have hY8 : Y w3.heap.size := by rw [hY]; exact .inr (.inr rfl)
      have HB4 : Hid (Below w.heap.size w (w3.alloc (.cells #[.int .i64 0, .slice none 0 0, .int .i64 0, .slice none 0 0] 71))) := Lib.hid (HB3.out.alloc hw3 _)
      have HMO : Hid (Mor X Y w (w3.alloc (.cells #[.int .i64 0, .slice none 0 0, .int .i64 0, .slice none 0 0] 71))) := Lib.hid ⟨hXY, fun b hb => by
        rw [hY] at hb
        rcases hb with hb | hb | hb
        · exact .inl hb
        · right; simp; omega
        · right; simp; omega⟩
      have HS4 := Lib.hid (HS.out.more HB4.out HMO.out)
      have HD4 : Hid (Blk (w3.alloc (.cells #[.int .i64 0, .slice none 0 0, .int .i64 0, .slice none 0 0] 71)) (w.heap.size + 1) 71 #[.int .i64 0, .slice none 0 0, .int .i64 0, .slice none 0 0]) := Lib.hid (HD3.out.alloc _)
      have H84 : Hid (Blk (w3.alloc (.cells #[.int .i64 0, .slice none 0 0, .int .i64 0, .slice none 0 0] 71)) w3.heap.size 71 #[.int .i64 0, .slice none 0 0, .int .i64 0, .slice none 0 0]) := Lib.hid (Blk.new _ _ _)
      have hcall := HI.out j hjn ⟨xo, xm, xu, xs, xA, xc, xl⟩ Y E _ HOX.out (HS4.out.lets.all _ (List.mem_of_getElem? HXJ.out)).b HS4.out
      have hev : evOf L.l T.l M.l j = evN T.l M.l L.l j 12 ⟨xo, xm, xu, xs, xA, xc, xl⟩ := evOf_at HXJ.out
      rw [← hev] at hcall
      clear hev hxat
      generalize w3.alloc (.cells #[.int .i64 0, .slice none 0 0, .int .i64 0, .slice none 0 0] 71) = w4 at *
      refine hcall.mono ?_
      clear hcall
      rintro e w5 ⟨hr, ⟨E5, hst, hne⟩, hg⟩
      have hm4 : w.heap.size + 1 ≠ m := by have := HS.out.mw; omega
      have hm8 : w3.heap.size ≠ m := by omega
      have HST := Lib.hid hst
      have HNE := Lib.hid hne
      have HG5 : Hid (w.grownBy w5 (some m)) := Lib.hid (grown_trans (below_by HB4.out _) hg)
      have HD5 := Lib.hid (HD4.out.gm hg hm4)
      have H85 := Lib.hid (H84.out.gm hg hm8)
      have HG45 := Lib.hid hg
      clear hst hne hg HD4 H84 f0 f1 f2 f3 ff fz r0 r1 r2 r3 rf rz
      rcases hr with ⟨h0, f, rfl, hf⟩ | ⟨h0, he⟩
      · have H0 := Lib.hid h0
        have HF := Lib.hid hf
        clear h0 hf
        obtain ⟨f0, f1, f2, f3, ff, fz⟩ := HST.out.blk.b4
        obtain ⟨t0, t1, t2, t3, tf, tz⟩ := H85.out.b4
        simp only [Frc.v]
        go_wp2_with fail
        have hg8 : g ≠ w3.heap.size := by have := HS3.out.blk.lt; omega
        have hgr : g ≠ w.heap.size + 1 := by have := HS.out.blk.lt; omega
        have HS6 : Hid (FnSt g m L T M Y E5 ((((w5.setCell ⟨w3.heap.size, 0, none⟩ (.int .i64 f.p.s)).setCell ⟨w3.heap.size, 1, none⟩ (.slice f.p.l.A f.p.l.l.length f.p.l.c)).setCell ⟨w3.heap.size, 2, none⟩ (.int .i64 f.q.s)).setCell ⟨w3.heap.size, 3, none⟩ (.slice f.q.l.A f.q.l.l.length f.q.l.c))) := Lib.hid (HST.out.stX hY8 hg8 (Ne.symm hm8) (fun _ h => h) HST.out.xm)
        have HF6 : Hid (RG (Nm Y ((((w5.setCell ⟨w3.heap.size, 0, none⟩ (.int .i64 f.p.s)).setCell ⟨w3.heap.size, 1, none⟩ (.slice f.p.l.A f.p.l.l.length f.p.l.c)).setCell ⟨w3.heap.size, 2, none⟩ (.int .i64 f.q.s)).setCell ⟨w3.heap.size, 3, none⟩ (.slice f.q.l.A f.q.l.l.length f.q.l.c))) ((((w5.setCell ⟨w3.heap.size, 0, none⟩ (.int .i64 f.p.s)).setCell ⟨w3.heap.size, 1, none⟩ (.slice f.p.l.A f.p.l.l.length f.p.l.c)).setCell ⟨w3.heap.size, 2, none⟩ (.int .i64 f.q.s)).setCell ⟨w3.heap.size, 3, none⟩ (.slice f.q.l.A f.q.l.l.length f.q.l.c)) f (evOf L.l T.l M.l j).p (evOf L.l T.l M.l j).q) := Lib.hid (HF.out.stX hY8 (fun _ h => h))
        have HG6 : Hid (w.grownBy ((((w5.setCell ⟨w3.heap.size, 0, none⟩ (.int .i64 f.p.s)).setCell ⟨w3.heap.size, 1, none⟩ (.slice f.p.l.A f.p.l.l.length f.p.l.c)).setCell ⟨w3.heap.size, 2, none⟩ (.int .i64 f.q.s)).setCell ⟨w3.heap.size, 3, none⟩ (.slice f.q.l.A f.q.l.l.length f.q.l.c)) (some m)) := Lib.hid (grown_st4 HG5.out hw3)
        have hr8 : w.heap.size + 1 ≠ w3.heap.size := by omega
        have HD6 : Hid (Blk ((((w5.setCell ⟨w3.heap.size, 0, none⟩ (.int .i64 f.p.s)).setCell ⟨w3.heap.size, 1, none⟩ (.slice f.p.l.A f.p.l.l.length f.p.l.c)).setCell ⟨w3.heap.size, 2, none⟩ (.int .i64 f.q.s)).setCell ⟨w3.heap.size, 3, none⟩ (.slice f.q.l.A f.q.l.l.length f.q.l.c)) (w.heap.size + 1) 71 #[.int .i64 0, .slice none 0 0, .int .i64 0, .slice none 0 0]) := Lib.hid ((((HD5.out.far hr8 _).far hr8 _).far hr8 _).far hr8 _)
        have H86 : Hid (Blk ((((w5.setCell ⟨w3.heap.size, 0, none⟩ (.int .i64 f.p.s)).setCell ⟨w3.heap.size, 1, none⟩ (.slice f.p.l.A f.p.l.l.length f.p.l.c)).setCell ⟨w3.heap.size, 2, none⟩ (.int .i64 f.q.s)).setCell ⟨w3.heap.size, 3, none⟩ (.slice f.q.l.A f.q.l.l.length f.q.l.c)) w3.heap.size 71 #[.int .i64 f.p.s, .slice f.p.l.A f.p.l.l.length f.p.l.c, .int .i64 f.q.s, .slice f.q.l.A f.q.l.l.length f.q.l.c]) := Lib.hid (by simpa using (((H85.out.set_ 0 (.int .i64 f.p.s)).set_ 1 (.slice f.p.l.A f.p.l.l.length f.p.l.c)).set_ 2 (.int .i64 f.q.s)).set_ 3 (.slice f.q.l.A f.q.l.l.length f.q.l.c))
        clear t0 t1 t2 t3 tf tz HST HF HG5 HD5 H85 HG45 HS4 f0 f1 f2 f3 ff fz
        generalize (((w5.setCell ⟨w3.heap.size, 0, none⟩ (.int .i64 f.p.s)).setCell ⟨w3.heap.size, 1, none⟩ (.slice f.p.l.A f.p.l.l.length f.p.l.c)).setCell ⟨w3.heap.size, 2, none⟩ (.int .i64 f.q.s)).setCell ⟨w3.heap.size, 3, none⟩ (.slice f.q.l.A f.q.l.l.length f.q.l.c) = w6 at *
        obtain ⟨f0, f1, f2, f3, ff, fz⟩ := HS6.out.blk.b4
        obtain ⟨t0, t1, t2, t3, tf, tz⟩ := H86.out.b4
        refine wp_region_T (fun W => W.cell? ⟨g, 1, none⟩ = some (.map (some m)) ∧ W.cell? ⟨w3.heap.size, 0, none⟩ = some (.int .i64 f.p.s) ∧ W.cell? ⟨w3.heap.size, 1, none⟩ = some (.slice f.p.l.A f.p.l.l.length f.p.l.c) ∧ W.cell? ⟨w3.heap.size, 2, none⟩ = some (.int .i64 f.q.s) ∧ W.cell? ⟨w3.heap.size, 3, none⟩ = some (.slice f.q.l.A f.q.l.l.length f.q.l.c)) (fun _ => false) (by kernel_rfl) ⟨f1, t0, t1, t2, t3⟩ (fun hHeld => ?_)
        refine qtq 0 ?_
        simp only [qsa, qsb, qsc]
        refine qtq 1 ?_
        simp only [qsa, qsb, qsc]
        refine qtq 2 ?_
        simp only [qsa, qsb, qsc]
        refine qtq 3 ?_
        simp only [qsa, qsb, qsc]
        refine qtq 4 ?_
        simp only [qsa, qsb, qsc]
        refine qtq 5 ?_
        simp only [qsa, qsb, qsc]
        clear hHeld
        refine wpAnyT_next (i := 6) (by kernel_rfl) rfl ?_
        have HN5 : Hid (∀ p, p ∈ E5 → p.1 ≠ (j : Int)) := Lib.hid (fun p hp hc => by
          rcases HNE.out p hp with h | h
          · exact HNO.out p h hc
          · omega)
        refine wpl_store_new rfl (.tmp 46) (.tmp 47) (.tmp 48) 109 rfl 71 (Value.agg #[.int .i64 f.p.s, .slice f.p.l.A f.p.l.l.length f.p.l.c, .int .i64 f.q.s, .slice f.q.l.A f.q.l.l.length f.q.l.c]) Tryz.underlying109 HS6.out.map rfl rfl rfl hI64 HN5.out ?_
        intro w7 hM7 hg7
        have hg67 := grown_undrew hg7
        have HS7 := Lib.hid (HS6.out.store hg67 hM7 HN5.out H0.out HF6.out)
        have HF7 := Lib.hid (HF6.out.grow HS6.out.xm hg67)
        have HG7 : Hid (w.grownBy w7 (some m)) := Lib.hid (grown_trans HG6.out hg67)
        have HD7 := Lib.hid (HD6.out.gm hg67 hm4)
        have H87 := Lib.hid (H86.out.gm hg67 hm8)
        clear hM7 hg7 hg67 f0 f1 f2 f3 ff fz t0 t1 t2 t3 tf tz HS6 HF6 HG6 HD6 H86
        obtain ⟨f0, f1, f2, f3, ff, fz⟩ := HS7.out.blk.b4
        obtain ⟨t0, t1, t2, t3, tf, tz⟩ := H87.out.b4
        obtain ⟨r0, r1, r2, r3, rf, rz⟩ := HD7.out.b4
        go_wp2_with fail
        refine And.intro (by first | exact fun _ => ⟨f1, t0, t1, t2, t3⟩ | exact ⟨f1, t0, t1, t2, t3⟩) ?_
        refine wpAnyT_done (by kernel_rfl) ?_ _
        go_wp2_with fail
        have hne : NewE E (E5 ++ [((j : Int), f.v)]) n := fun p hp => by
          rcases List.mem_append.1 hp with hp | hp
          · exact HNE.out.mono (Nat.le_of_lt hjn) p hp
          · rw [List.mem_singleton.1 hp]
            exact .inr (by simp only; omega)
        try simp only [Exit.inBlock, Exit.then]
        refine bodyPost_ret (v := .agg #[.int .i64 f.p.s, .slice f.p.l.A f.p.l.l.length f.p.l.c, .int .i64 f.q.s, .slice f.q.l.A f.q.l.l.length f.q.l.c]) ?_ rfl (FnP.cast HLK.out (FnP.yesX H0.out HF7.out HS7.out hYr hgr (Ne.symm hm4) hXY HS.out.xm hne HG7.out (Nat.le_succ _)))
        simp [results, Tryz.results104, go_sem, r0, r1, r2, r3, rz]
      · unfold ErrV at he
        subst he
        have H0 := Lib.hid h0
        clear h0
        go_wp2_with fail
        exact ⟨rfl, FnP.cast HLK.out ⟨.inr ⟨H0.out, rfl⟩, ⟨E5, HST.out.less hXY HS.out.xm, HNE.out.mono (Nat.le_of_lt hjn)⟩, HG5.out⟩⟩
end Go.Proofs.YtcgocdhhneckhaaGreat
