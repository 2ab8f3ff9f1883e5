/- Walks: the finder's value: what it keeps; numbers, names, facts. -/
import Derived.Test.YtcgocdhhneckhaaGreatFnammxbe
import Derived.Test.YtcgocdhhneckhaaGreatFnammxaz
namespace Go.Proofs.YtcgocdhhneckhaaGreat
open Go.RowKit
section
variable {T M : List FT} {L : List LT} {n k : Nat} {o a u : Int} {s : ByteArray} {A : Option Addr} {c : Nat} {l : List PT} {x y z : PT}
theorem evN_num : evN T M L n (k + 1) ⟨0, a, u, s, A, c, l⟩ = wholeF a := by unfold evN evE; rw [if_pos rfl]
theorem evN_name : evN T M L n (k + 1) ⟨1, a, u, s, A, c, l⟩ = lkF s (L.take n) (lvN T M L n) := by unfold evN evE; rw [if_neg (by decide), if_pos rfl]
theorem evN_trip : evN T M L n (k + 1) ⟨2, a, u, s, A, c, l⟩ = factF s T := by unfold evN evE; rw [if_neg (by decide), if_neg (by decide), if_pos rfl]
theorem evN_memb : evN T M L n (k + 1) ⟨3, a, u, s, A, c, l⟩ = factF s M := by unfold evN evE; rw [if_neg (by decide), if_neg (by decide), if_neg (by decide), if_pos rfl]
theorem evN_op (h0 : ¬ o = 0) (h1 : ¬ o = 1) (h2 : ¬ o = 2) (h3 : ¬ o = 3) : evN T M L n (k + 1) ⟨o, a, u, s, A, c, l⟩ = opF o (l.map (evN T M L n k)) := by
  unfold evN
  conv => lhs; unfold evE
  rw [if_neg h0, if_neg h1, if_neg h2, if_neg h3]
theorem evN_not : evN T M L n (k + 1) ⟨12, a, u, s, A, c, [x]⟩ = notF (evN T M L n k x) := by rw [evN_op (by decide) (by decide) (by decide) (by decide)]; rfl
theorem evN_and : evN T M L n (k + 1) ⟨13, a, u, s, A, c, [x, y]⟩ = andF (evN T M L n k x) (evN T M L n k y) := by rw [evN_op (by decide) (by decide) (by decide) (by decide)]; simp only [List.map_cons, List.map_nil, opF, if_true]
theorem evN_or : evN T M L n (k + 1) ⟨14, a, u, s, A, c, [x, y]⟩ = orF (evN T M L n k x) (evN T M L n k y) := by rw [evN_op (by decide) (by decide) (by decide) (by decide)]; simp only [List.map_cons, List.map_nil, opF, if_true]; rw [if_neg (by decide)]
theorem evN_ite : evN T M L n (k + 1) ⟨15, a, u, s, A, c, [x, y, z]⟩ = iteF (evN T M L n k x) (evN T M L n k y) (evN T M L n k z) := by rw [evN_op (by decide) (by decide) (by decide) (by decide)]; rfl
theorem evN_two (h0 : ¬ o = 0) (h1 : ¬ o = 1) (h2 : ¬ o = 2) (h3 : ¬ o = 3) (h13 : ¬ o = 13) (h14 : ¬ o = 14) : evN T M L n (k + 1) ⟨o, a, u, s, A, c, [x, y]⟩ = twoF o (evN T M L n k x) (evN T M L n k y) := by
  rw [evN_op h0 h1 h2 h3]; simp only [List.map_cons, List.map_nil, opF]; rw [if_neg h13, if_neg h14]
end
/-- The world in which value runs: its boxes, and nothing that is read lies in its result's. -/
structure VS (g m : Nat) (L : Sl LT) (T M : Sl FT) (X Y : Nat → Prop) (E : List (Int × Value)) (w w1 : World) (e : PT) : Prop where
  gr : w.grownBy w1 (some m)
  st : FnSt g m L T M Y E w1
  ex : PT.At (Nm Y w1) w1 e
  bE : Blk w1 w.heap.size 25 e.enc.toArray
  bR : Blk w1 (w.heap.size + 1) 71 #[.int .i64 0, .slice none 0 0, .int .i64 0, .slice none 0 0]
  xy : ∀ b, X b → Y b
  xm : X m
  yr : Y (w.heap.size + 1)
  gw : g < w.heap.size
  mw : m < w.heap.size
section
variable {g m : Nat} {L : Sl LT} {T M : Sl FT} {X Y : Nat → Prop} {E E' : List (Int × Value)} {w w1 w2 : World} {e : PT}
theorem vs_make (hs : FnSt g m L T M X E w) (he : PT.At (Nm X w) w e) : ∃ Y, VS g m L T M X Y E w ((w.alloc (.cells e.enc.toArray 25)).alloc (.cells #[.int .i64 0, .slice none 0 0, .int .i64 0, .slice none 0 0] 71)) e := by
  have hb : Below w.heap.size w ((w.alloc (.cells e.enc.toArray 25)).alloc (.cells #[.int .i64 0, .slice none 0 0, .int .i64 0, .slice none 0 0] 71)) := qbl
  have hm : Mor X (fun b => X b ∨ b = w.heap.size + 1) w ((w.alloc (.cells e.enc.toArray 25)).alloc (.cells #[.int .i64 0, .slice none 0 0, .int .i64 0, .slice none 0 0] 71)) := ⟨fun b h => .inl h, fun b h => by
    rcases h with h | h
    · exact .inl h
    · right; simp; omega⟩
  exact ⟨fun b => X b ∨ b = w.heap.size + 1, below_by hb _, hs.more hb hm, he.more hb hm, (Blk.new _ _ _).alloc _, Blk.new' (by simp), fun b h => .inl h, hs.xm, .inr rfl, hs.blk.lt, hs.mw⟩
theorem VS.next (h : VS g m L T M X Y E w w1 e) (hst : FnSt g m L T M Y E' w2) (hg : w1.grownBy w2 (some m)) : VS g m L T M X Y E' w w2 e :=
  ⟨grown_trans h.gr hg, hst, h.ex.grow h.st.xm hg, h.bE.gm hg (by have := h.mw; omega), h.bR.gm hg (by have := h.mw; omega), h.xy, h.xm, h.yr, h.gw, h.mw⟩
theorem VS.later (h : VS g m L T M X Y E w w1 e) (hb : Below w1.heap.size w1 w2) : VS g m L T M X Y E w w2 e := h.next (h.st.later hb) (below_by hb _)
theorem VS.fin {n : Nat} {r : FrR} {f : Frc} {x y z v : Value} (h : VS g m L T M X Y E' w w1 e) (h0 : r.e = 0) (hf : RG (Nm Y w1) w1 f r.p r.q) (hne : NewE E E' n) :
    FnP g m L T M X E n w ((((w1.setCell ⟨w.heap.size + 1, 0, none⟩ x).setCell ⟨w.heap.size + 1, 1, none⟩ y).setCell ⟨w.heap.size + 1, 2, none⟩ z).setCell ⟨w.heap.size + 1, 3, none⟩ v) r (.returned f.v) :=
  FnP.yesX h0 hf h.st h.yr (by have := h.gw; omega) (by have := h.mw; omega) h.xy h.xm hne h.gr (Nat.le_succ _)
theorem VS.bad {n : Nat} {r : FrR} (h : VS g m L T M X Y E' w w1 e) (h0 : r.e ≠ 0) (hne : NewE E E' n) : FnP g m L T M X E n w w1 r (.panicked [{ v := .iface 30 (.int .i64 r.e), recovered := false }]) :=
  ⟨.inr ⟨h0, rfl⟩, ⟨E', h.st.less h.xy h.xm, hne⟩, h.gr⟩
theorem RG.ofNew {f : Frc} {p q : Int} (h : RG (Nw w1.heap.size w2) w2 f p q) (hs : FnSt g m L T M Y E w1) : RG (Nm Y w2) w2 f p q := h.mono fun b hb => ⟨hb.2, fun hy => by have := hs.xlt b hy; have := hb.1; omega⟩
end
section
variable (g m : Nat) (L : Sl LT) (T M : Sl FT) (n k : Nat)
set_option maxRecDepth 100000 in
set_option maxHeartbeats 1600000 in
theorem ev_val_num (a u : Int) (s : ByteArray) (A : Option Addr) (c : Nat) (l : List PT) (X : Nat → Prop) (E : List (Int × Value)) (w : World) (ha : -9223372036854775808 ≤ a) (ha2 : a ≤ 9223372036854775807) (he : PT.At (Nm X w) w ⟨0, a, u, s, A, c, l⟩) (hs : FnSt g m L T M X E w) :
    Calls Tryz.prog 68 #[.pointer (some ⟨g, 0, none⟩), PT.v ⟨0, a, u, s, A, c, l⟩, .int .i64 n] w fun r w' => FnP g m L T M X E n w w' (evN T.l M.l L.l n (k + 1) ⟨0, a, u, s, A, c, l⟩) r := by
  rw [evN_num]
  have HVS := Lib.hid (vs_make hs he)
  clear hs he
  simp only [PT.v, PT.enc] at HVS ⊢
  go_enter Tryz.func68, Tryz.ntmps68
  go_wp2_with fail
  obtain ⟨Y, hvs⟩ := HVS.out
  have HV1 := Lib.hid hvs
  clear HVS hvs
  generalize (w.alloc (.cells #[.int .i64 0, .int .i64 a, .int .i64 u, .string s, .slice A l.length c] 25)).alloc (.cells #[.int .i64 0, .slice none 0 0, .int .i64 0, .slice none 0 0] 71) = w1 at *
  refine (ev_whole a _ ha ha2).mono ?_
  rintro e w2 ⟨f, rfl, hf, hb2⟩
  have HV2 := Lib.hid (HV1.out.later hb2)
  have HF := Lib.hid (hf.ofNew HV1.out.st)
  clear hf hb2
  obtain ⟨r0, r1, r2, r3, rf, rz⟩ := HV2.out.bR.b4
  simp only [Frc.v]
  go_wp2_with fail
  try simp only [Exit.inBlock, Exit.then]
  refine bodyPost_ret (v := .agg #[.int .i64 f.p.s, .slice f.p.l.A f.p.l.l.length f.p.l.c, .int .i64 f.q.s, .slice f.q.l.A f.q.l.l.length f.q.l.c]) ?_ rfl (HV2.out.fin (r := wholeF a) rfl HF.out (NewE.refl _ _))
  simp [results, Tryz.results68, go_sem, r0, r1, r2, r3, rz]
set_option maxRecDepth 100000 in
set_option maxHeartbeats 1600000 in
theorem ev_val_trip (a u : Int) (s : ByteArray) (A : Option Addr) (c : Nat) (l : List PT) (X : Nat → Prop) (E : List (Int × Value)) (w : World) (hv : ∀ x, x ∈ T.l → -9223372036854775808 ≤ x.v ∧ x.v ≤ 9223372036854775807) (he : PT.At (Nm X w) w ⟨2, a, u, s, A, c, l⟩) (hs : FnSt g m L T M X E w) :
    Calls Tryz.prog 68 #[.pointer (some ⟨g, 0, none⟩), PT.v ⟨2, a, u, s, A, c, l⟩, .int .i64 n] w fun r w' => FnP g m L T M X E n w w' (evN T.l M.l L.l n (k + 1) ⟨2, a, u, s, A, c, l⟩) r := by
  rw [evN_trip]
  obtain ⟨V, hV⟩ : ∃ V, factF s T.l = V := ⟨_, rfl⟩
  rw [hV]
  have HVV := Lib.hid hV
  clear hV
  have HVS := Lib.hid (vs_make hs he)
  clear hs he
  simp only [PT.v, PT.enc] at HVS ⊢
  go_enter Tryz.func68, Tryz.ntmps68
  go_wp2_with fail
  obtain ⟨Y, hvs⟩ := HVS.out
  have HV1 := Lib.hid hvs
  clear HVS hvs
  generalize (w.alloc (.cells #[.int .i64 2, .int .i64 a, .int .i64 u, .string s, .slice A l.length c] 25)).alloc (.cells #[.int .i64 0, .slice none 0 0, .int .i64 0, .slice none 0 0] 71) = w1 at *
  obtain ⟨f0, f1, f2, f3, ff, fz⟩ := HV1.out.st.blk.b4
  obtain ⟨a0, a1, a2, a3, a4, af, az⟩ := HV1.out.bE.b5
  refine wp_region_T (fun W => W.cell? ⟨g, 2, none⟩ = some (.slice T.A T.l.length T.c) ∧ W.cell? ⟨w.heap.size, 3, none⟩ = some (.string s)) (fun i => 7 ≤ i) (by kernel_rfl) ⟨f2, a3⟩ (fun hHeld => ?_)
  refine qtq 0 ?_
  simp only [qsa, qsb, qsc]
  refine qtq 1 ?_
  simp only [qsa, qsb, qsc]
  refine qtq 2 ?_
  simp only [qsa, qsb, qsc]
  refine qtq 3 ?_
  simp only [qsa, qsb, qsc]
  refine qtq 4 ?_
  simp only [qsa, qsb, qsc]
  refine qtq 5 ?_
  simp only [qsa, qsb, qsc]
  clear hHeld
  refine wpAnyT_next (i := 6) (by kernel_rfl) rfl ?_
  go_wp2_with fail
  refine (ev_fact T s _ ((HV1.out.st.trip.mono nm_lt).later (Below.drew (Below.refl _ _))) hv).mono ?_
  rintro e w2 ⟨hr, hb2⟩
  have hb2b : Below w1.heap.size w1 w2 := Below.trans (Below.drew (Below.refl _ _)) hb2
  have HV2 := Lib.hid (HV1.out.later hb2b)
  rw [HVV.out] at hr
  clear a0 a1 a2 a3 a4 af az f0 f1 f2 f3 ff fz hb2b
  obtain ⟨f0, f1, f2, f3, ff, fz⟩ := HV2.out.st.blk.b4
  obtain ⟨a0, a1, a2, a3, a4, af, az⟩ := HV2.out.bE.b5
  obtain ⟨r0, r1, r2, r3, rf, rz⟩ := HV2.out.bR.b4
  rcases hr with ⟨h0, f, rfl, hf⟩ | ⟨h0, he⟩
  · have H0 := Lib.hid h0
    have HF := Lib.hid (RG.ofNew (w1 := w1) hf HV1.out.st)
    clear hf hb2 h0
    simp only [Frc.v]
    go_wp2_with fail
    refine And.intro (by first | exact fun _ => ⟨f2, a3⟩ | exact ⟨f2, a3⟩) ?_
    refine wpAnyT_next (i := 7) (by kernel_rfl) rfl ?_
    go_wp2_with fail
    try simp only [QT]
    try (with_reducible refine And.intro (fun h => by simp at h) ?_)
    refine wpAnyT_done (by kernel_rfl) ?_ _
    go_wp2_with fail
    try simp only [Exit.inBlock, Exit.then]
    refine bodyPost_ret (v := .agg #[.int .i64 f.p.s, .slice f.p.l.A f.p.l.l.length f.p.l.c, .int .i64 f.q.s, .slice f.q.l.A f.q.l.l.length f.q.l.c]) ?_ rfl (HV2.out.fin H0.out HF.out (NewE.refl _ _))
    simp [results, Tryz.results68, go_sem, r0, r1, r2, r3, rz]
  · unfold ErrV at he
    subst he
    have H0 := Lib.hid h0
    clear h0 hb2
    go_wp2_with fail
    exact ⟨rfl, HV2.out.bad H0.out (NewE.refl _ _)⟩
set_option maxRecDepth 100000 in
set_option maxHeartbeats 1600000 in
theorem ev_val_memb (a u : Int) (s : ByteArray) (A : Option Addr) (c : Nat) (l : List PT) (X : Nat → Prop) (E : List (Int × Value)) (w : World) (hv : ∀ x, x ∈ M.l → -9223372036854775808 ≤ x.v ∧ x.v ≤ 9223372036854775807) (he : PT.At (Nm X w) w ⟨3, a, u, s, A, c, l⟩) (hs : FnSt g m L T M X E w) :
    Calls Tryz.prog 68 #[.pointer (some ⟨g, 0, none⟩), PT.v ⟨3, a, u, s, A, c, l⟩, .int .i64 n] w fun r w' => FnP g m L T M X E n w w' (evN T.l M.l L.l n (k + 1) ⟨3, a, u, s, A, c, l⟩) r := by
  rw [evN_memb]
  obtain ⟨V, hV⟩ : ∃ V, factF s M.l = V := ⟨_, rfl⟩
  rw [hV]
  have HVV := Lib.hid hV
  clear hV
  have HVS := Lib.hid (vs_make hs he)
  clear hs he
  simp only [PT.v, PT.enc] at HVS ⊢
  go_enter Tryz.func68, Tryz.ntmps68
  go_wp2_with fail
  obtain ⟨Y, hvs⟩ := HVS.out
  have HV1 := Lib.hid hvs
  clear HVS hvs
  generalize (w.alloc (.cells #[.int .i64 3, .int .i64 a, .int .i64 u, .string s, .slice A l.length c] 25)).alloc (.cells #[.int .i64 0, .slice none 0 0, .int .i64 0, .slice none 0 0] 71) = w1 at *
  obtain ⟨f0, f1, f2, f3, ff, fz⟩ := HV1.out.st.blk.b4
  obtain ⟨a0, a1, a2, a3, a4, af, az⟩ := HV1.out.bE.b5
  refine wp_region_T (fun W => W.cell? ⟨g, 3, none⟩ = some (.slice M.A M.l.length M.c) ∧ W.cell? ⟨w.heap.size, 3, none⟩ = some (.string s)) (fun i => 7 ≤ i) (by kernel_rfl) ⟨f3, a3⟩ (fun hHeld => ?_)
  refine qtq 0 ?_
  simp only [qsa, qsb, qsc]
  refine qtq 1 ?_
  simp only [qsa, qsb, qsc]
  refine qtq 2 ?_
  simp only [qsa, qsb, qsc]
  refine qtq 3 ?_
  simp only [qsa, qsb, qsc]
  refine qtq 4 ?_
  simp only [qsa, qsb, qsc]
  refine qtq 5 ?_
  simp only [qsa, qsb, qsc]
  clear hHeld
  refine wpAnyT_next (i := 6) (by kernel_rfl) rfl ?_
  go_wp2_with fail
  refine (ev_fact M s _ ((HV1.out.st.memb.mono nm_lt).later (Below.drew (Below.refl _ _))) hv).mono ?_
  rintro e w2 ⟨hr, hb2⟩
  have hb2b : Below w1.heap.size w1 w2 := Below.trans (Below.drew (Below.refl _ _)) hb2
  have HV2 := Lib.hid (HV1.out.later hb2b)
  rw [HVV.out] at hr
  clear a0 a1 a2 a3 a4 af az f0 f1 f2 f3 ff fz hb2b
  obtain ⟨f0, f1, f2, f3, ff, fz⟩ := HV2.out.st.blk.b4
  obtain ⟨a0, a1, a2, a3, a4, af, az⟩ := HV2.out.bE.b5
  obtain ⟨r0, r1, r2, r3, rf, rz⟩ := HV2.out.bR.b4
  rcases hr with ⟨h0, f, rfl, hf⟩ | ⟨h0, he⟩
  · have H0 := Lib.hid h0
    have HF := Lib.hid (RG.ofNew (w1 := w1) hf HV1.out.st)
    clear hf hb2 h0
    simp only [Frc.v]
    go_wp2_with fail
    refine And.intro (by first | exact fun _ => ⟨f3, a3⟩ | exact ⟨f3, a3⟩) ?_
    refine wpAnyT_next (i := 7) (by kernel_rfl) rfl ?_
    go_wp2_with fail
    try simp only [QT]
    try (with_reducible refine And.intro (fun h => by simp at h) ?_)
    refine wpAnyT_done (by kernel_rfl) ?_ _
    go_wp2_with fail
    try simp only [Exit.inBlock, Exit.then]
    refine bodyPost_ret (v := .agg #[.int .i64 f.p.s, .slice f.p.l.A f.p.l.l.length f.p.l.c, .int .i64 f.q.s, .slice f.q.l.A f.q.l.l.length f.q.l.c]) ?_ rfl (HV2.out.fin H0.out HF.out (NewE.refl _ _))
    simp [results, Tryz.results68, go_sem, r0, r1, r2, r3, rz]
  · unfold ErrV at he
    subst he
    have H0 := Lib.hid h0
    clear h0 hb2
    go_wp2_with fail
    exact ⟨rfl, HV2.out.bad H0.out (NewE.refl _ _)⟩
end
end Go.Proofs.YtcgocdhhneckhaaGreat
/- Walks: the finder's value: names, not, and, or. -/
namespace Go.Proofs.YtcgocdhhneckhaaGreat
open Go.RowKit
theorem arg_at {F : Nat → Prop} {w : World} {o a u : Int} {s : ByteArray} {A : Option Addr} {c : Nat} {l : List PT} {x : PT} (i : Nat) (h : PT.At F w ⟨o, a, u, s, A, c, l⟩) (hx : l[i]? = some x) :
    ∃ b q, A = some ⟨b, q, none⟩ ∧ F b ∧ Cells w b (q + i * 5) x.enc := h.rd.2.2.2 i x hx
theorem arg_more {F : Nat → Prop} {w : World} {o a u : Int} {s : ByteArray} {b q : Nat} {c : Nat} {l : List PT} {x : PT} (i : Nat) (h : PT.At F w ⟨o, a, u, s, some ⟨b, q, none⟩, c, l⟩) (hx : l[i]? = some x) :
    F b ∧ Cells w b (q + i * 5) x.enc := by
  obtain ⟨b', q', hA, hb, hc⟩ := arg_at i h hx
  injection hA with hA
  injection hA with h1 h2
  subst h1 h2
  exact ⟨hb, hc⟩
theorem arg_in {F : Nat → Prop} {w : World} {o a u : Int} {s : ByteArray} {A : Option Addr} {c : Nat} {l : List PT} {x : PT} {i : Nat} (h : PT.At F w ⟨o, a, u, s, A, c, l⟩) (hx : l[i]? = some x) : PT.At F w x := h.all x (List.mem_of_getElem? hx)
section
variable (g m : Nat) (L : Sl LT) (T M : Sl FT) (n k : Nat)
set_option maxRecDepth 100000 in
set_option maxHeartbeats 1600000 in
theorem ev_val_name (hn : n ≤ L.l.length) (ih : ∀ j, j < n → ValIH g m L T M j 12) (hok : ∀ x, x ∈ L.l → okE 12 x.b = true) (a u : Int) (s : ByteArray) (A : Option Addr) (c : Nat) (l : List PT) (X : Nat → Prop) (E : List (Int × Value)) (w : World) (he : PT.At (Nm X w) w ⟨1, a, u, s, A, c, l⟩) (hs : FnSt g m L T M X E w) :
    Calls Tryz.prog 68 #[.pointer (some ⟨g, 0, none⟩), PT.v ⟨1, a, u, s, A, c, l⟩, .int .i64 n] w fun r w' => FnP g m L T M X E n w w' (evN T.l M.l L.l n (k + 1) ⟨1, a, u, s, A, c, l⟩) r := by
  rw [evN_name]
  have HI := Lib.hid (ev_let g m L T M n hn ih hok s)
  obtain ⟨V, hV⟩ : ∃ V, lkF s (L.l.take n) (lvN T.l M.l L.l n) = V := ⟨_, rfl⟩
  rw [hV] at HI ⊢
  clear hV ih hok hn
  have HVS := Lib.hid (vs_make hs he)
  clear hs he
  simp only [PT.v, PT.enc] at HVS ⊢
  go_enter Tryz.func68, Tryz.ntmps68
  go_wp2_with fail
  obtain ⟨Y, hvs⟩ := HVS.out
  have HV1 := Lib.hid hvs
  clear HVS hvs
  generalize (w.alloc (.cells #[.int .i64 1, .int .i64 a, .int .i64 u, .string s, .slice A l.length c] 25)).alloc (.cells #[.int .i64 0, .slice none 0 0, .int .i64 0, .slice none 0 0] 71) = w1 at *
  refine (HI.out Y E w1 HV1.out.st).mono ?_
  rintro e w2 ⟨hr, ⟨E2, hst, hne⟩, hg⟩
  have HV2 := Lib.hid (HV1.out.next hst hg)
  have HNE := Lib.hid hne
  clear hst hg hne
  obtain ⟨r0, r1, r2, r3, rf, rz⟩ := HV2.out.bR.b4
  rcases hr with ⟨h0, f, rfl, hf⟩ | ⟨h0, he⟩
  · have H0 := Lib.hid h0
    have HF := Lib.hid hf
    clear hf h0
    simp only [Frc.v]
    go_wp2_with fail
    try simp only [Exit.inBlock, Exit.then]
    refine bodyPost_ret (v := .agg #[.int .i64 f.p.s, .slice f.p.l.A f.p.l.l.length f.p.l.c, .int .i64 f.q.s, .slice f.q.l.A f.q.l.l.length f.q.l.c]) ?_ rfl (HV2.out.fin H0.out HF.out HNE.out)
    simp [results, Tryz.results68, go_sem, r0, r1, r2, r3, rz]
  · unfold ErrV at he
    subst he
    have H0 := Lib.hid h0
    clear h0
    go_wp2_with fail
    exact ⟨rfl, HV2.out.bad H0.out HNE.out⟩
theorem notF_bad {a : FrR} (h : a.e ≠ 0) : notF a = FrR.bad a.e := by unfold notF; rw [if_pos h]
theorem notF_ok {a : FrR} (h : a.e = 0) : notF a = truF (!isF a) := by unfold notF; rw [if_neg (fun h' => h' h)]
set_option maxRecDepth 100000 in
set_option maxHeartbeats 1600000 in
theorem ev_val_not (ih : ValIH g m L T M n k) (a u : Int) (s : ByteArray) (A : Option Addr) (c : Nat) (l : List PT) (x : PT) (hl : l = [x]) (hx : okE k x = true) (X : Nat → Prop) (E : List (Int × Value)) (w : World) (he : PT.At (Nm X w) w ⟨12, a, u, s, A, c, l⟩) (hs : FnSt g m L T M X E w) :
    Calls Tryz.prog 68 #[.pointer (some ⟨g, 0, none⟩), PT.v ⟨12, a, u, s, A, c, l⟩, .int .i64 n] w fun r w' => FnP g m L T M X E n w w' (evN T.l M.l L.l n (k + 1) ⟨12, a, u, s, A, c, l⟩) r := by
  have hv : evN T.l M.l L.l n (k + 1) ⟨12, a, u, s, A, c, l⟩ = notF (evN T.l M.l L.l n k x) := by rw [hl]; exact evN_not
  have HI := Lib.hid (fun Y W => ev_is g m L T M n k ih x Y E W hx)
  obtain ⟨V, hV⟩ : ∃ V, evN T.l M.l L.l n k x = V := ⟨_, rfl⟩
  rw [hv]
  rw [hV] at HI ⊢
  have h0l : 0 < l.length := by rw [hl]; exact Nat.zero_lt_one
  have HX0 : Hid (l[0]? = some x) := Lib.hid (by rw [hl]; rfl)
  clear hV ih hv hl hx
  obtain ⟨b, q, rfl, _⟩ := arg_at 0 he HX0.out
  obtain ⟨xo, xm, xu, xs, xA, xc, xl⟩ := x
  have HVS := Lib.hid (vs_make hs he)
  clear hs he
  simp only [PT.v, PT.enc] at HVS HI ⊢
  obtain ⟨Y, hvs⟩ := HVS.out
  have HV1 := Lib.hid hvs
  clear HVS hvs
  have hargs := arg_more 0 HV1.out.ex HX0.out
  obtain ⟨pb, pc⟩ := hargs
  obtain ⟨p0, p1, p2, p3, p4⟩ := Cells.c5 pc
  simp only [Nat.zero_mul, Nat.add_zero, Nat.reduceMul] at p0 p1 p2 p3 p4
  have pl := pb.1
  clear pb pc
  go_enter Tryz.func68, Tryz.ntmps68
  go_wp2_with fail
  generalize ((w.alloc (.cells #[.int .i64 12, .int .i64 a, .int .i64 u, .string s, .slice (some ⟨b, q, none⟩) l.length c] 25)).alloc (.cells #[.int .i64 0, .slice none 0 0, .int .i64 0, .slice none 0 0] 71)) = w1 at *
  refine (HI.out Y w1 (arg_in HV1.out.ex HX0.out) HV1.out.st).mono ?_
  rintro e w2 ⟨hr, ⟨E2, hst, hne⟩, hg⟩
  have HV2 := Lib.hid (HV1.out.next hst hg)
  have HNE := Lib.hid hne
  clear hst hg hne p0 p1 p2 p3 p4
  rcases hr with ⟨h0, rfl⟩ | ⟨h0, he⟩
  · have HR := Lib.hid (notF_ok h0)
    obtain ⟨B, hB⟩ : ∃ B, isF V = B := ⟨_, rfl⟩
    rw [hB] at HR ⊢
    clear hB h0
    go_wp2_with fail
    refine (ev_truth (!B) _).mono ?_
    rintro e wt ⟨f, rfl, hf, hbt⟩
    have HVT := Lib.hid (HV2.out.later hbt)
    have HF := Lib.hid (hf.ofNew HV2.out.st)
    clear hf hbt
    obtain ⟨r0, r1, r2, r3, rf, rz⟩ := HVT.out.bR.b4
    simp only [Frc.v]
    go_wp2_with fail
    try simp only [Exit.inBlock, Exit.then]
    refine bodyPost_ret (v := .agg #[.int .i64 f.p.s, .slice f.p.l.A f.p.l.l.length f.p.l.c, .int .i64 f.q.s, .slice f.q.l.A f.q.l.l.length f.q.l.c]) ?_ rfl (FnP.cast HR.out (HVT.out.fin (r := truF (!B)) rfl HF.out HNE.out))
    simp [results, Tryz.results68, go_sem, r0, r1, r2, r3, rz]
  · skip
    unfold ErrV at he
    subst he
    have H0 := Lib.hid h0
    clear h0
    go_wp2_with fail
    exact ⟨rfl, FnP.cast (notF_bad H0.out) (HV2.out.bad H0.out HNE.out)⟩
theorem andF_bad {a b : FrR} (h : a.e ≠ 0) : andF a b = FrR.bad a.e := by unfold andF; rw [if_pos h]
theorem andF_one {a b : FrR} (h : a.e = 0) (hb : isF a = false) : andF a b = truF false := by unfold andF; rw [if_neg (fun h' => h' h), if_pos hb]
theorem andF_bad2 {a b : FrR} (h : a.e = 0) (hb : isF a = true) (h2 : b.e ≠ 0) : andF a b = FrR.bad b.e := by unfold andF; rw [if_neg (fun h' => h' h), if_neg (by rw [hb]; simp), if_pos h2]
theorem andF_two {a b : FrR} (h : a.e = 0) (hb : isF a = true) (h2 : b.e = 0) : andF a b = truF (isF b) := by unfold andF; rw [if_neg (fun h' => h' h), if_neg (by rw [hb]; simp), if_neg (fun h' => h' h2)]
set_option maxRecDepth 100000 in
set_option maxHeartbeats 1600000 in
theorem ev_val_and (ih : ValIH g m L T M n k) (a u : Int) (s : ByteArray) (A : Option Addr) (c : Nat) (l : List PT) (x y : PT) (hl : l = [x, y]) (hx : okE k x = true) (hy : okE k y = true) (X : Nat → Prop) (E : List (Int × Value)) (w : World) (he : PT.At (Nm X w) w ⟨13, a, u, s, A, c, l⟩) (hs : FnSt g m L T M X E w) :
    Calls Tryz.prog 68 #[.pointer (some ⟨g, 0, none⟩), PT.v ⟨13, a, u, s, A, c, l⟩, .int .i64 n] w fun r w' => FnP g m L T M X E n w w' (evN T.l M.l L.l n (k + 1) ⟨13, a, u, s, A, c, l⟩) r := by
  have hv : evN T.l M.l L.l n (k + 1) ⟨13, a, u, s, A, c, l⟩ = andF (evN T.l M.l L.l n k x) (evN T.l M.l L.l n k y) := by rw [hl]; exact evN_and
  have HI := Lib.hid (fun Y W => ev_is g m L T M n k ih x Y E W hx)
  have HJ := Lib.hid (fun E Y W => ev_is g m L T M n k ih y Y E W hy)
  obtain ⟨V, hV⟩ : ∃ V, evN T.l M.l L.l n k x = V := ⟨_, rfl⟩
  obtain ⟨U, hU⟩ : ∃ U, evN T.l M.l L.l n k y = U := ⟨_, rfl⟩
  rw [hv]
  rw [hV] at HI ⊢
  rw [hU] at HJ ⊢
  have h0l : 0 < l.length := by rw [hl]; simp
  have h1l : 1 < l.length := by rw [hl]; simp
  have HX0 : Hid (l[0]? = some x) := Lib.hid (by rw [hl]; rfl)
  have HX1 : Hid (l[1]? = some y) := Lib.hid (by rw [hl]; rfl)
  clear hV hU ih hv hl hx hy
  obtain ⟨b, q, rfl, _⟩ := arg_at 0 he HX0.out
  obtain ⟨xo, xm, xu, xs, xA, xc, xl⟩ := x
  obtain ⟨yo, ym, yu, ys, yA, yc, yl⟩ := y
  simp only [PT.v] at HJ
  have HVS := Lib.hid (vs_make hs he)
  clear hs he
  simp only [PT.v, PT.enc] at HVS HI ⊢
  obtain ⟨Y, hvs⟩ := HVS.out
  have HV1 := Lib.hid hvs
  clear HVS hvs
  have hargs := arg_more 0 HV1.out.ex HX0.out
  obtain ⟨pb, pc⟩ := hargs
  obtain ⟨p0, p1, p2, p3, p4⟩ := Cells.c5 pc
  simp only [Nat.zero_mul, Nat.add_zero, Nat.reduceMul] at p0 p1 p2 p3 p4
  have pl := pb.1
  clear pb pc
  go_enter Tryz.func68, Tryz.ntmps68
  go_wp2_with fail
  generalize ((w.alloc (.cells #[.int .i64 13, .int .i64 a, .int .i64 u, .string s, .slice (some ⟨b, q, none⟩) l.length c] 25)).alloc (.cells #[.int .i64 0, .slice none 0 0, .int .i64 0, .slice none 0 0] 71)) = w1 at *
  refine (HI.out Y w1 (arg_in HV1.out.ex HX0.out) HV1.out.st).mono ?_
  rintro e w2 ⟨hr, ⟨E2, hst, hne⟩, hg⟩
  have HV2 := Lib.hid (HV1.out.next hst hg)
  have HNE := Lib.hid hne
  clear hst hg hne p0 p1 p2 p3 p4 pl
  rcases hr with ⟨h0, rfl⟩ | ⟨h0, he⟩
  · have H0 := Lib.hid h0
    obtain ⟨B, hB⟩ : ∃ B, isF V = B := ⟨_, rfl⟩
    rw [hB]
    have HBB := Lib.hid hB
    clear hB h0
    by_cases hbt : B = false
    · subst hbt
      have HR := Lib.hid (andF_one (b := U) H0.out HBB.out)
      go_wp2_with fail
      refine (ev_truth (false) _).mono ?_
      rintro e wt ⟨f, rfl, hf, hbt⟩
      have HVT := Lib.hid (HV2.out.later hbt)
      have HF := Lib.hid (hf.ofNew HV2.out.st)
      clear hf hbt
      obtain ⟨r0, r1, r2, r3, rf, rz⟩ := HVT.out.bR.b4
      simp only [Frc.v]
      go_wp2_with fail
      try simp only [Exit.inBlock, Exit.then]
      refine bodyPost_ret (v := .agg #[.int .i64 f.p.s, .slice f.p.l.A f.p.l.l.length f.p.l.c, .int .i64 f.q.s, .slice f.q.l.A f.q.l.l.length f.q.l.c]) ?_ rfl (FnP.cast HR.out (HVT.out.fin (r := truF (false)) rfl HF.out HNE.out))
      simp [results, Tryz.results68, go_sem, r0, r1, r2, r3, rz]
    · have hbf : B = true := by cases B <;> simp at hbt ⊢
      clear hbt
      subst hbf
      obtain ⟨a0, a1, a2, a3, a4, af, az⟩ := HV2.out.bE.b5
      have hargs := arg_more 1 HV2.out.ex HX1.out
      obtain ⟨pb, pc⟩ := hargs
      obtain ⟨p0, p1, p2, p3, p4⟩ := Cells.c5 pc
      simp only [Nat.zero_mul, Nat.add_zero, Nat.reduceMul] at p0 p1 p2 p3 p4
      have pl := pb.1
      clear pb pc
      go_wp2_with fail
      refine (HJ.out E2 Y w2 (arg_in HV2.out.ex HX1.out) HV2.out.st).mono ?_
      rintro e w3 ⟨hr, ⟨E3, hst, hne⟩, hg⟩
      have HV3 := Lib.hid (HV2.out.next hst hg)
      have HNE3 := Lib.hid (HNE.out.trans hne)
      clear hst hg hne p0 p1 p2 p3 p4 pl a0 a1 a2 a3 a4 af az
      rcases hr with ⟨h0, rfl⟩ | ⟨h0, he⟩
      · have HR := Lib.hid (andF_two H0.out HBB.out h0)
        obtain ⟨C, hC⟩ : ∃ C, isF U = C := ⟨_, rfl⟩
        rw [hC] at HR ⊢
        clear hC h0
        go_wp2_with fail
        refine (ev_truth (C) _).mono ?_
        rintro e wt ⟨f, rfl, hf, hbt⟩
        have HVT := Lib.hid (HV3.out.later hbt)
        have HF := Lib.hid (hf.ofNew HV3.out.st)
        clear hf hbt
        obtain ⟨r0, r1, r2, r3, rf, rz⟩ := HVT.out.bR.b4
        simp only [Frc.v]
        go_wp2_with fail
        try simp only [Exit.inBlock, Exit.then]
        refine bodyPost_ret (v := .agg #[.int .i64 f.p.s, .slice f.p.l.A f.p.l.l.length f.p.l.c, .int .i64 f.q.s, .slice f.q.l.A f.q.l.l.length f.q.l.c]) ?_ rfl (FnP.cast HR.out (HVT.out.fin (r := truF (C)) rfl HF.out HNE3.out))
        simp [results, Tryz.results68, go_sem, r0, r1, r2, r3, rz]
      · have HR := Lib.hid (andF_bad2 H0.out HBB.out h0)
        clear H0
        unfold ErrV at he
        subst he
        have H0 := Lib.hid h0
        clear h0
        go_wp2_with fail
        exact ⟨rfl, FnP.cast (HR.out) (HV3.out.bad H0.out HNE3.out)⟩
  · have HR := Lib.hid (andF_bad (b := U) h0)
    unfold ErrV at he
    subst he
    have H0 := Lib.hid h0
    clear h0
    go_wp2_with fail
    exact ⟨rfl, FnP.cast (HR.out) (HV2.out.bad H0.out HNE.out)⟩
theorem orF_bad {a b : FrR} (h : a.e ≠ 0) : orF a b = FrR.bad a.e := by unfold orF; rw [if_pos h]
theorem orF_one {a b : FrR} (h : a.e = 0) (hb : isF a = true) : orF a b = truF true := by unfold orF; rw [if_neg (fun h' => h' h), if_pos hb]
theorem orF_bad2 {a b : FrR} (h : a.e = 0) (hb : isF a = false) (h2 : b.e ≠ 0) : orF a b = FrR.bad b.e := by unfold orF; rw [if_neg (fun h' => h' h), if_neg (by rw [hb]; simp), if_pos h2]
theorem orF_two {a b : FrR} (h : a.e = 0) (hb : isF a = false) (h2 : b.e = 0) : orF a b = truF (isF b) := by unfold orF; rw [if_neg (fun h' => h' h), if_neg (by rw [hb]; simp), if_neg (fun h' => h' h2)]
set_option maxRecDepth 100000 in
set_option maxHeartbeats 1600000 in
theorem ev_val_or (ih : ValIH g m L T M n k) (a u : Int) (s : ByteArray) (A : Option Addr) (c : Nat) (l : List PT) (x y : PT) (hl : l = [x, y]) (hx : okE k x = true) (hy : okE k y = true) (X : Nat → Prop) (E : List (Int × Value)) (w : World) (he : PT.At (Nm X w) w ⟨14, a, u, s, A, c, l⟩) (hs : FnSt g m L T M X E w) :
    Calls Tryz.prog 68 #[.pointer (some ⟨g, 0, none⟩), PT.v ⟨14, a, u, s, A, c, l⟩, .int .i64 n] w fun r w' => FnP g m L T M X E n w w' (evN T.l M.l L.l n (k + 1) ⟨14, a, u, s, A, c, l⟩) r := by
  have hv : evN T.l M.l L.l n (k + 1) ⟨14, a, u, s, A, c, l⟩ = orF (evN T.l M.l L.l n k x) (evN T.l M.l L.l n k y) := by rw [hl]; exact evN_or
  have HI := Lib.hid (fun Y W => ev_is g m L T M n k ih x Y E W hx)
  have HJ := Lib.hid (fun E Y W => ev_is g m L T M n k ih y Y E W hy)
  obtain ⟨V, hV⟩ : ∃ V, evN T.l M.l L.l n k x = V := ⟨_, rfl⟩
  obtain ⟨U, hU⟩ : ∃ U, evN T.l M.l L.l n k y = U := ⟨_, rfl⟩
  rw [hv]
  rw [hV] at HI ⊢
  rw [hU] at HJ ⊢
  have h0l : 0 < l.length := by rw [hl]; simp
  have h1l : 1 < l.length := by rw [hl]; simp
  have HX0 : Hid (l[0]? = some x) := Lib.hid (by rw [hl]; rfl)
  have HX1 : Hid (l[1]? = some y) := Lib.hid (by rw [hl]; rfl)
  clear hV hU ih hv hl hx hy
  obtain ⟨b, q, rfl, _⟩ := arg_at 0 he HX0.out
  obtain ⟨xo, xm, xu, xs, xA, xc, xl⟩ := x
  obtain ⟨yo, ym, yu, ys, yA, yc, yl⟩ := y
  simp only [PT.v] at HJ
  have HVS := Lib.hid (vs_make hs he)
  clear hs he
  simp only [PT.v, PT.enc] at HVS HI ⊢
  obtain ⟨Y, hvs⟩ := HVS.out
  have HV1 := Lib.hid hvs
  clear HVS hvs
  have hargs := arg_more 0 HV1.out.ex HX0.out
  obtain ⟨pb, pc⟩ := hargs
  obtain ⟨p0, p1, p2, p3, p4⟩ := Cells.c5 pc
  simp only [Nat.zero_mul, Nat.add_zero, Nat.reduceMul] at p0 p1 p2 p3 p4
  have pl := pb.1
  clear pb pc
  go_enter Tryz.func68, Tryz.ntmps68
  go_wp2_with fail
  generalize ((w.alloc (.cells #[.int .i64 14, .int .i64 a, .int .i64 u, .string s, .slice (some ⟨b, q, none⟩) l.length c] 25)).alloc (.cells #[.int .i64 0, .slice none 0 0, .int .i64 0, .slice none 0 0] 71)) = w1 at *
  refine (HI.out Y w1 (arg_in HV1.out.ex HX0.out) HV1.out.st).mono ?_
  rintro e w2 ⟨hr, ⟨E2, hst, hne⟩, hg⟩
  have HV2 := Lib.hid (HV1.out.next hst hg)
  have HNE := Lib.hid hne
  clear hst hg hne p0 p1 p2 p3 p4 pl
  rcases hr with ⟨h0, rfl⟩ | ⟨h0, he⟩
  · have H0 := Lib.hid h0
    obtain ⟨B, hB⟩ : ∃ B, isF V = B := ⟨_, rfl⟩
    rw [hB]
    have HBB := Lib.hid hB
    clear hB h0
    by_cases hbt : B = true
    · subst hbt
      have HR := Lib.hid (orF_one (b := U) H0.out HBB.out)
      go_wp2_with fail
      refine (ev_truth (true) _).mono ?_
      rintro e wt ⟨f, rfl, hf, hbt⟩
      have HVT := Lib.hid (HV2.out.later hbt)
      have HF := Lib.hid (hf.ofNew HV2.out.st)
      clear hf hbt
      obtain ⟨r0, r1, r2, r3, rf, rz⟩ := HVT.out.bR.b4
      simp only [Frc.v]
      go_wp2_with fail
      try simp only [Exit.inBlock, Exit.then]
      refine bodyPost_ret (v := .agg #[.int .i64 f.p.s, .slice f.p.l.A f.p.l.l.length f.p.l.c, .int .i64 f.q.s, .slice f.q.l.A f.q.l.l.length f.q.l.c]) ?_ rfl (FnP.cast HR.out (HVT.out.fin (r := truF (true)) rfl HF.out HNE.out))
      simp [results, Tryz.results68, go_sem, r0, r1, r2, r3, rz]
    · have hbf : B = false := by cases B <;> simp at hbt ⊢
      clear hbt
      subst hbf
      obtain ⟨a0, a1, a2, a3, a4, af, az⟩ := HV2.out.bE.b5
      have hargs := arg_more 1 HV2.out.ex HX1.out
      obtain ⟨pb, pc⟩ := hargs
      obtain ⟨p0, p1, p2, p3, p4⟩ := Cells.c5 pc
      simp only [Nat.zero_mul, Nat.add_zero, Nat.reduceMul] at p0 p1 p2 p3 p4
      have pl := pb.1
      clear pb pc
      go_wp2_with fail
      refine (HJ.out E2 Y w2 (arg_in HV2.out.ex HX1.out) HV2.out.st).mono ?_
      rintro e w3 ⟨hr, ⟨E3, hst, hne⟩, hg⟩
      have HV3 := Lib.hid (HV2.out.next hst hg)
      have HNE3 := Lib.hid (HNE.out.trans hne)
      clear hst hg hne p0 p1 p2 p3 p4 pl a0 a1 a2 a3 a4 af az
      rcases hr with ⟨h0, rfl⟩ | ⟨h0, he⟩
      · have HR := Lib.hid (orF_two H0.out HBB.out h0)
        obtain ⟨C, hC⟩ : ∃ C, isF U = C := ⟨_, rfl⟩
        rw [hC] at HR ⊢
        clear hC h0
        go_wp2_with fail
        refine (ev_truth (C) _).mono ?_
        rintro e wt ⟨f, rfl, hf, hbt⟩
        have HVT := Lib.hid (HV3.out.later hbt)
        have HF := Lib.hid (hf.ofNew HV3.out.st)
        clear hf hbt
        obtain ⟨r0, r1, r2, r3, rf, rz⟩ := HVT.out.bR.b4
        simp only [Frc.v]
        go_wp2_with fail
        try simp only [Exit.inBlock, Exit.then]
        refine bodyPost_ret (v := .agg #[.int .i64 f.p.s, .slice f.p.l.A f.p.l.l.length f.p.l.c, .int .i64 f.q.s, .slice f.q.l.A f.q.l.l.length f.q.l.c]) ?_ rfl (FnP.cast HR.out (HVT.out.fin (r := truF (C)) rfl HF.out HNE3.out))
        simp [results, Tryz.results68, go_sem, r0, r1, r2, r3, rz]
      · have HR := Lib.hid (orF_bad2 H0.out HBB.out h0)
        clear H0
        unfold ErrV at he
        subst he
        have H0 := Lib.hid h0
        clear h0
        go_wp2_with fail
        exact ⟨rfl, FnP.cast (HR.out) (HV3.out.bad H0.out HNE3.out)⟩
  · have HR := Lib.hid (orF_bad (b := U) h0)
    unfold ErrV at he
    subst he
    have H0 := Lib.hid h0
    clear h0
    go_wp2_with fail
    exact ⟨rfl, FnP.cast (HR.out) (HV2.out.bad H0.out HNE.out)⟩
end
end Go.Proofs.YtcgocdhhneckhaaGreat
