/- A fraction somewhere in memory; walks: eval.must, whole, truth, fact. -/
import Derived.Test.YtcgocdhhneckhaaGreatFnammxbb
import Derived.Test.YtcgocdhhneckhaaGreatFnammxax
namespace Go.Proofs.YtcgocdhhneckhaaGreat
open Go.RowKit
/-- A right fraction whose digits lie in blocks of which F holds. -/
structure RG (F : Nat → Prop) (w : World) (f : Frc) (p q : Int) : Prop where
  P : Rd F 1 ienc w f.p.l
  Q : Rd F 1 ienc w f.q.l
  dp : f.p.s = p.sign ∧ f.p.l.l = digs p.natAbs
  dq : f.q.s = q.sign ∧ f.q.l.l = digs q.natAbs
  ok : FracOK p q
section
variable {F G : Nat → Prop} {w w' : World} {f : Frc} {p q : Int}
theorem RG.keep (h : RG F w f p q) (hk : ∀ b, F b → w'.heap[b]? = w.heap[b]?) : RG F w' f p q := ⟨h.P.keep hk, h.Q.keep hk, h.dp, h.dq, h.ok⟩
theorem RG.mono (h : RG F w f p q) (hFG : ∀ b, F b → G b) : RG G w f p q := ⟨h.P.mono hFG, h.Q.mono hFG, h.dp, h.dq, h.ok⟩
theorem RG.rf (h : RG F w f p q) (hF : ∀ b, F b → b < w.heap.size) : RF w f p q :=
  ⟨⟨h.P.mono hF, h.dp.1, h.dp.2, h.ok.fp⟩, ⟨h.Q.mono hF, h.dq.1, h.dq.2, h.ok.fq⟩, h.ok⟩
theorem RG.nw {n m : Nat} (h : RG (Nw n w) w f p q) (hn : m ≤ n) (hb : Below w.heap.size w w') : RG (Nw m w') w' f p q :=
  (h.keep fun b hb' => hb.block b hb'.2).mono fun _ hb' => hb'.mono hn hb.size
theorem RG.sign (h : RG F w f p q) : (f.p.s = 0) ↔ p = 0 := by rw [h.dp.1, Int.sign_eq_zero_iff_zero]
end
theorem RG.st4 {w : World} {f : Frc} {p q : Int} {k n g : Nat} {x y z v : Value} (h : RG (Nw n w) w f p q) (h1 : ∀ b, n ≤ b → b ≠ g) (hm : k ≤ n) : RG (Nw k ((((w.setCell ⟨g, 0, none⟩ x).setCell ⟨g, 1, none⟩ y).setCell ⟨g, 2, none⟩ z).setCell ⟨g, 3, none⟩ v)) ((((w.setCell ⟨g, 0, none⟩ x).setCell ⟨g, 1, none⟩ y).setCell ⟨g, 2, none⟩ z).setCell ⟨g, 3, none⟩ v) f p q :=
  ⟨rd_st4 h.P h1 hm, rd_st4 h.Q h1 hm, h.dp, h.dq, h.ok⟩
def ErrV (en : Int) : Ending := .panicked [{ v := .iface 30 (.int .i64 en), recovered := false }]
/-- A fraction that is new, or a panic with an errno. -/
def EvR (w w' : World) (r : FrR) (e : Ending) : Prop := r.e = 0 ∧ (∃ f : Frc, e = .returned f.v ∧ RG (Nw w.heap.size w') w' f r.p r.q) ∨ r.e ≠ 0 ∧ e = ErrV r.e
def EvP (w w' : World) (r : FrR) (e : Ending) : Prop := EvR w w' r e ∧ Below w.heap.size w w'
theorem FrP.yes {w w' : World} {r : FrR} {e : Ending} (h : FrP w w' r e) (h0 : r.e = 0) (hok : FracOK r.p r.q) : ∃ f : Frc, e = .returned (.tuple #[f.v, .int .i64 0]) ∧ RG (Nw w.heap.size w') w' f r.p r.q ∧ Below w.heap.size w w' := by
  obtain ⟨f, he, hy, _, hp, hq, hb⟩ := h
  obtain ⟨h1, h2⟩ := hy h0
  rw [h0] at he
  injection h1 with h11 h12
  injection h2 with h21 h22
  exact ⟨f, he, ⟨hp, hq, ⟨h11, h12⟩, ⟨h21, h22⟩, hok⟩, hb⟩
theorem FrP.no {w w' : World} {r : FrR} {e : Ending} (h : FrP w w' r e) : ∃ f : Frc, e = .returned (.tuple #[f.v, .int .i64 r.e]) ∧ Below w.heap.size w w' := by
  obtain ⟨f, he, _, _, _, _, hb⟩ := h
  exact ⟨f, he, hb⟩
theorem ok_whole {n : Int} (h0 : -9223372036854775808 ≤ n) (h1 : n ≤ 9223372036854775807) : FracOK n 1 := ⟨by omega, by simp, fits_i64 h0 h1, fits_one⟩
set_option maxHeartbeats 800000 in
theorem ev_must_ok (f : Frc) (w : World) : Calls Tryz.prog 123 #[f.v, .int .i64 0] w fun r w' => r = .returned f.v ∧ Below w.heap.size w w' := by
  simp only [Frc.v]
  go_enter Tryz.func123, Tryz.ntmps123
  go_wp2_with fail
  try simp only [Exit.inBlock, Exit.then]
  refine bodyPost_ret (v := .agg #[.int .i64 f.p.s, .slice f.p.l.A f.p.l.l.length f.p.l.c, .int .i64 f.q.s, .slice f.q.l.A f.q.l.l.length f.q.l.c]) ?_ rfl ⟨rfl, qbl⟩
  simp [results, Tryz.results123, go_sem, go_sem]
set_option maxHeartbeats 800000 in
theorem ev_must_no (f : Frc) (en : Int) (w : World) (h : ¬ en = 0) : Calls Tryz.prog 123 #[f.v, .int .i64 en] w fun r w' => r = ErrV en ∧ Below w.heap.size w w' := by
  simp only [Frc.v]
  go_enter Tryz.func123, Tryz.ntmps123
  go_wp2_with fail
  exact ⟨rfl, rfl, qbl⟩
end Go.Proofs.YtcgocdhhneckhaaGreat
/- Walks: eval.whole, truth, fact. -/
namespace Go.Proofs.YtcgocdhhneckhaaGreat
open Go.RowKit
/-- A right fraction that is new. -/
def GotF (w w' : World) (p q : Int) (e : Ending) : Prop := ∃ f : Frc, e = .returned f.v ∧ RG (Nw w.heap.size w') w' f p q ∧ Below w.heap.size w w'
theorem GotF.ev {w w' : World} {p q : Int} {e : Ending} (h : GotF w w' p q e) : EvP w w' ⟨p, q, 0⟩ e := by
  obtain ⟨f, he, hf, hb⟩ := h
  exact ⟨.inl ⟨rfl, f, he, hf⟩, hb⟩
theorem GotF.via {w w1 w' : World} {p q : Int} {e : Ending} (h : GotF w1 w' p q e) (hb : Below w.heap.size w w1) : GotF w w' p q e := by
  obtain ⟨f, he, hf, hb1⟩ := h
  exact ⟨f, he, hf.nw hb.size (Below.refl _ _), hb.trans (hb1.mono hb.size)⟩
set_option maxHeartbeats 800000 in
theorem ev_whole (n : Int) (w : World) (h0 : -9223372036854775808 ≤ n) (h1 : n ≤ 9223372036854775807) : Calls Tryz.prog 85 #[.int .i64 n] w fun e w' => GotF w w' n 1 e := by
  go_enter Tryz.func85, Tryz.ntmps85
  go_wp2_with fail
  refine (frac_whole n _ h0 h1).mono ?_
  rintro e w1 hp
  obtain ⟨f, rfl, hf, hb1⟩ := hp.yes rfl (ok_whole h0 h1)
  have K_r : Blk _ (w.heap.size) 71 #[.int .i64 0, .slice none 0 0, .int .i64 0, .slice none 0 0] := qkb hb1
  obtain ⟨r0, r1, r2, r3, rf, rz⟩ := Blk.b4 K_r
  have B_r := Lib.hid K_r
  clear K_r
  have HF : Hid (RG (Nw (w.heap.size + 1) w1) w1 f n 1) := Lib.hid (hf.mono fun b hb => hb.mono (by simp) (Nat.le_refl _))
  have HB : Hid (Below w.heap.size w w1) := Lib.hid qbv
  clear hf hb1 hp
  simp only [Frc.v]
  go_wp2_with fail
  refine (ev_must_ok f _).mono ?_
  rintro e w2 ⟨rfl, hb2⟩
  clear r0 r1 r2 r3 rf rz
  have K_r : Blk _ (w.heap.size) 71 #[.int .i64 0, .slice none 0 0, .int .i64 0, .slice none 0 0] := qkc B_r hb2
  obtain ⟨r0, r1, r2, r3, rf, rz⟩ := Blk.b4 K_r
  have B_r := Lib.hid K_r
  clear K_r
  have HF2 : Hid (RG (Nw (w.heap.size + 1) w2) w2 f n 1) := Lib.hid (HF.out.nw (Nat.le_refl _) hb2)
  have HB2 : Hid (Below w.heap.size w w2) := Lib.hid (HB.out.trans (hb2.mono HB.out.size))
  clear hb2 HF HB
  simp only [Frc.v]
  go_wp2_with fail
  have hne : ∀ b, w.heap.size + 1 ≤ b → b ≠ w.heap.size := fun b hb => by omega
  try simp only [Exit.inBlock, Exit.then]
  refine bodyPost_ret (v := .agg #[.int .i64 f.p.s, .slice f.p.l.A f.p.l.l.length f.p.l.c, .int .i64 f.q.s, .slice f.q.l.A f.q.l.l.length f.q.l.c]) ?_ rfl ⟨f, rfl, HF2.out.st4 hne (by omega), below_st4 HB2.out⟩
  simp [results, Tryz.results85, go_sem, r0, r1, r2, r3]
set_option maxHeartbeats 800000 in
theorem ev_truth_true (w : World) : Calls Tryz.prog 106 #[.bool true] w fun e w' => GotF w w' 1 1 e := by
  go_enter Tryz.func106, Tryz.ntmps106
  go_wp2_with fail
  refine (ev_whole 1 _ (by omega) (by omega)).mono ?_
  rintro e w1 ⟨f, rfl, hf, hb1⟩
  have K_r : Blk _ (w.heap.size) 71 #[.int .i64 0, .slice none 0 0, .int .i64 0, .slice none 0 0] := qkb hb1
  obtain ⟨r0, r1, r2, r3, rf, rz⟩ := Blk.b4 K_r
  have B_r := Lib.hid K_r
  clear K_r
  have HF : Hid (RG (Nw (w.heap.size + 1) w1) w1 f 1 1) := Lib.hid (hf.mono fun b hb => hb.mono (by simp) (Nat.le_refl _))
  have HB : Hid (Below w.heap.size w w1) := Lib.hid qbv
  clear hf hb1
  simp only [Frc.v]
  go_wp2_with fail
  have hne : ∀ b, w.heap.size + 1 ≤ b → b ≠ w.heap.size := fun b hb => by omega
  try simp only [Exit.inBlock, Exit.then]
  refine bodyPost_ret (v := .agg #[.int .i64 f.p.s, .slice f.p.l.A f.p.l.l.length f.p.l.c, .int .i64 f.q.s, .slice f.q.l.A f.q.l.l.length f.q.l.c]) ?_ rfl ⟨f, rfl, HF.out.st4 hne (by omega), below_st4 HB.out⟩
  simp [results, Tryz.results106, go_sem, r0, r1, r2, r3]
set_option maxHeartbeats 800000 in
theorem ev_truth_false (w : World) : Calls Tryz.prog 106 #[.bool false] w fun e w' => GotF w w' 0 1 e := by
  go_enter Tryz.func106, Tryz.ntmps106
  go_wp2_with fail
  refine (ev_whole 0 _ (by omega) (by omega)).mono ?_
  rintro e w1 ⟨f, rfl, hf, hb1⟩
  have K_r : Blk _ (w.heap.size) 71 #[.int .i64 0, .slice none 0 0, .int .i64 0, .slice none 0 0] := qkb hb1
  obtain ⟨r0, r1, r2, r3, rf, rz⟩ := Blk.b4 K_r
  have B_r := Lib.hid K_r
  clear K_r
  have HF : Hid (RG (Nw (w.heap.size + 1) w1) w1 f 0 1) := Lib.hid (hf.mono fun b hb => hb.mono (by simp) (Nat.le_refl _))
  have HB : Hid (Below w.heap.size w w1) := Lib.hid qbv
  clear hf hb1
  simp only [Frc.v]
  go_wp2_with fail
  have hne : ∀ b, w.heap.size + 1 ≤ b → b ≠ w.heap.size := fun b hb => by omega
  try simp only [Exit.inBlock, Exit.then]
  refine bodyPost_ret (v := .agg #[.int .i64 f.p.s, .slice f.p.l.A f.p.l.l.length f.p.l.c, .int .i64 f.q.s, .slice f.q.l.A f.q.l.l.length f.q.l.c]) ?_ rfl ⟨f, rfl, HF.out.st4 hne (by omega), below_st4 HB.out⟩
  simp [results, Tryz.results106, go_sem, r0, r1, r2, r3]
theorem ev_truth (b : Bool) (w : World) : Calls Tryz.prog 106 #[.bool b] w fun e w' => GotF w w' (truF b).p (truF b).q e := by
  cases b
  · exact ev_truth_false w
  · exact ev_truth_true w
theorem FT.at_ {F : Nat → Prop} {w : World} {l : Sl FT} (h : Rd F 2 FT.enc w l) {j : Nat} {x : FT} (hx : l.l[j]? = some x) : ∃ b o, l.A = some ⟨b, o, none⟩ ∧ F b ∧ w.cell? ⟨b, o + j * 2, none⟩ = some (.string x.nm) ∧ w.cell? ⟨b, o + j * 2 + 1, none⟩ = some (.int .i64 x.v) := by
  obtain ⟨b, o, hA, hF, hc⟩ := h.2.2.2 j x hx
  exact ⟨b, o, hA, hF, hc.c2⟩
set_option maxHeartbeats 1600000 in
theorem ev_fact (l : Sl FT) (s : ByteArray) (w : World) (hl : FactsAt (· < w.heap.size) w l) (hv : ∀ x, x ∈ l.l → -9223372036854775808 ≤ x.v ∧ x.v ≤ 9223372036854775807) :
    Calls Tryz.prog 105 #[.slice l.A l.l.length l.c, .string s] w fun e w' => EvP w w' (factF s l.l) e := by
  have hln := hl.rd.len
  have HL := Lib.hid hl
  have HV := Lib.hid hv
  clear hl hv
  go_enter Tryz.func105, Tryz.ntmps105
  go_wp2_with fail
  have HB : Hid (Below w.heap.size w ((w.alloc (.cells #[.string s] 9)).alloc (.cells #[.int .i64 0, .slice none 0 0, .int .i64 0, .slice none 0 0] 71))) := Lib.hid qbl
  have HC : Hid (Blk ((w.alloc (.cells #[.string s] 9)).alloc (.cells #[.int .i64 0, .slice none 0 0, .int .i64 0, .slice none 0 0] 71)) w.heap.size 9 #[.string s]) := Lib.hid ((Blk.new _ _ _).alloc _)
  have HD : Hid (Blk ((w.alloc (.cells #[.string s] 9)).alloc (.cells #[.int .i64 0, .slice none 0 0, .int .i64 0, .slice none 0 0] 71)) (w.heap.size + 1) 71 #[.int .i64 0, .slice none 0 0, .int .i64 0, .slice none 0 0]) := Lib.hid (Blk.new' (by simp))
  generalize (w.alloc (.cells #[.string s] 9)).alloc (.cells #[.int .i64 0, .slice none 0 0, .int .i64 0, .slice none 0 0] 71) = w2 at *
  have hcon := idxF_fa l (fun x => sameB x.nm s) w.heap.size w2 (HL.out.later HB.out).rd (fun W x _ hW => ev_fact1 x s _ W (HC.out.later hW).b1.1 (HC.out.later hW).lt)
  rcases idxP_ge (fun x : FT => sameB x.nm s) l.l 0 with ⟨h1, h2⟩ | ⟨j, x, h1, h2, h3, h4⟩
  · rw [h1] at hcon
    have HF := Lib.hid (factF_none h2)
    clear h1 h2
    refine hcon.mono ?_
    clear hcon
    rintro e w3 ⟨rfl, hb3⟩
    have hB : Below w.heap.size w w3 := HB.out.trans (hb3.mono HB.out.size)
    clear hb3
    go_wp2_with fail
    exact ⟨rfl, by rw [HF.out]; exact ⟨.inr ⟨by decide, rfl⟩, hB⟩⟩
  · have hj : j < l.l.length := (List.getElem?_eq_some_iff.1 h2).1
    rw [h1, Nat.zero_add] at hcon
    have HF := Lib.hid (factF_at h2 h3 h4)
    have HX := Lib.hid (HV.out x (List.mem_of_getElem? h2))
    have H2 := Lib.hid h2
    clear h1 h2 h3 h4
    refine hcon.mono ?_
    clear hcon
    rintro e w3 ⟨rfl, hb3⟩
    have hB : Below w.heap.size w w3 := HB.out.trans (hb3.mono HB.out.size)
    have HB3 := Lib.hid hB
    obtain ⟨b, o, hA, _, c0, c1⟩ := FT.at_ (HL.out.later hB).rd H2.out
    have hD3 := Lib.hid (HD.out.later hb3)
    have hz3 : w.heap.size + 1 < w3.heap.size := hD3.out.lt
    clear hb3 hB
    rw [hA]
    go_wp2_with fail
    refine (ev_whole x.v _ HX.out.1 HX.out.2).mono ?_
    rintro e w4 ⟨f, rfl, hf, hb4⟩
    obtain ⟨r0, r1, r2, r3, rf, rz⟩ := (hD3.out.later hb4).b4
    have HFF := Lib.hid hf
    have HB4 : Hid (Below w.heap.size w w4) := Lib.hid (HB3.out.trans (hb4.mono HB3.out.size))
    clear hf hb4
    simp only [Frc.v]
    go_wp2_with fail
    have hne : ∀ b, w3.heap.size ≤ b → b ≠ w.heap.size + 1 := fun b hb => by omega
    have hok : EvR w ((((w4.setCell ⟨w.heap.size + 1, 0, none⟩ (.int .i64 f.p.s)).setCell ⟨w.heap.size + 1, 1, none⟩ (.slice f.p.l.A f.p.l.l.length f.p.l.c)).setCell ⟨w.heap.size + 1, 2, none⟩ (.int .i64 f.q.s)).setCell ⟨w.heap.size + 1, 3, none⟩ (.slice f.q.l.A f.q.l.l.length f.q.l.c)) (factF s l.l) (.returned f.v) := by
      rw [HF.out]
      exact .inl ⟨rfl, f, rfl, HFF.out.st4 hne (by omega)⟩
    try simp only [Exit.inBlock, Exit.then]
    refine bodyPost_ret (v := .agg #[.int .i64 f.p.s, .slice f.p.l.A f.p.l.l.length f.p.l.c, .int .i64 f.q.s, .slice f.q.l.A f.q.l.l.length f.q.l.c]) ?_ rfl ⟨hok, below_st4 HB4.out⟩
    simp [results, Tryz.results105, go_sem, r0, r1, r2, r3]
end Go.Proofs.YtcgocdhhneckhaaGreat
/- What eval's finder is in memory: its lets, its facts, and the map of the values that it has found. -/
namespace Go.Proofs.YtcgocdhhneckhaaGreat
open Go.RowKit
/-- A block that is there and is none of X. -/
def Nm (X : Nat → Prop) (w : World) (b : Nat) : Prop := b < w.heap.size ∧ ¬ X b
theorem Nm.grow {X : Nat → Prop} {b : Nat} {w w' : World} (h : Nm X w b) (hs : w.heap.size ≤ w'.heap.size) : Nm X w' b := ⟨Nat.lt_of_lt_of_le h.1 hs, h.2⟩
theorem Nm.kept {X : Nat → Prop} {m b : Nat} {w w' : World} (h : Nm X w b) (hm : X m) (hg : w.grownBy w' (some m)) : w'.heap[b]? = w.heap[b]? := hg.block b h.1 (fun e => h.2 (by injection e with e; rw [e]; exact hm))
theorem nm_lt {X : Nat → Prop} {w : World} : ∀ b, Nm X w b → b < w.heap.size := fun _ h => h.1
theorem grown_refl (w : World) (r : Option Nat) : w.grownBy w r := ⟨rfl, rfl, rfl, Nat.le_refl _, fun _ _ _ => rfl⟩
theorem below_by {w w' : World} (h : Below w.heap.size w w') (r : Option Nat) : w.grownBy w' r := ⟨h.os, h.tape, h.output, h.size, fun j hj _ => h.block j hj⟩
theorem grown_trans {w w1 w2 : World} {m : Nat} (h1 : w.grownBy w1 (some m)) (h2 : w1.grownBy w2 (some m)) : w.grownBy w2 (some m) :=
  ⟨h2.os.trans h1.os, h2.tape.trans h1.tape, h2.output.trans h1.output, Nat.le_trans h1.size h2.size, fun j hj hr => (h2.block j (Nat.lt_of_lt_of_le hj h1.size) hr).trans (h1.block j hj hr)⟩
theorem grown_below {w w' : World} {m B : Nat} (h : w.grownBy w' (some m)) (hB : B ≤ w.heap.size) (hm : B ≤ m) : Below B w w' := (Below.refl B w).grown h hB (fun k hk => by injection hk with hk; omega)
theorem Blk.gm {w w' : World} {g m : Nat} {t : TypeId} {cs : Array Value} (h : Blk w g t cs) (hg : w.grownBy w' (some m)) (hne : g ≠ m) : Blk w' g t cs := h.grown hg (fun e => hne (by injection e))
def evOf (L : List LT) (T M : List FT) (k : Nat) : FrR := match L[k]? with
  | some x => evN T M L k 12 x.b
  | none => FrR.bad 1
/-- The finder at g, with its map at m; nothing that it reads lies in X. -/
structure FnSt (g m : Nat) (L : Sl LT) (T M : Sl FT) (X : Nat → Prop) (E : List (Int × Value)) (w : World) : Prop where
  blk : Blk w g 111 #[.slice L.A L.l.length L.c, .map (some m), .slice T.A T.l.length T.c, .slice M.A M.l.length M.c]
  map : MapI w m E
  lets : LetsAt (Nm X w) w L
  trip : FactsAt (Nm X w) w T
  memb : FactsAt (Nm X w) w M
  memo : ∀ p, p ∈ E → ∃ (k : Nat) (f : Frc), p.1 = (k : Int) ∧ p.2 = f.v ∧ (evOf L.l T.l M.l k).e = 0 ∧ RG (Nm X w) w f (evOf L.l T.l M.l k).p (evOf L.l T.l M.l k).q
  uniq : ∀ p q, p ∈ E → q ∈ E → p.1 = q.1 → p = q
  gm : g ≠ m
  xm : X m
  xlt : ∀ b, X b → b < w.heap.size
section
variable {g m : Nat} {L : Sl LT} {T M : Sl FT} {X : Nat → Prop} {E : List (Int × Value)} {w w' : World}
theorem FnSt.mw (h : FnSt g m L T M X E w) : m < w.heap.size := h.xlt m h.xm
theorem LetsAt.mono {F G : Nat → Prop} (h : LetsAt F w L) (hFG : ∀ b, F b → G b) : LetsAt G w L := h.keep (fun _ _ => rfl) hFG
theorem FactsAt.mono {F G : Nat → Prop} (h : FactsAt F w T) (hFG : ∀ b, F b → G b) : FactsAt G w T := h.keep (fun _ _ => rfl) hFG
theorem PT.At.mono {F G : Nat → Prop} {e : PT} (h : PT.At F w e) (hFG : ∀ b, F b → G b) : PT.At G w e := h.keep (fun _ _ => rfl) hFG
theorem LetsAt.grow (h : LetsAt (Nm X w) w L) (hm : X m) (hg : w.grownBy w' (some m)) : LetsAt (Nm X w') w' L := h.keep (fun _ hb => hb.kept hm hg) (fun _ hb => hb.grow hg.size)
theorem FactsAt.grow (h : FactsAt (Nm X w) w T) (hm : X m) (hg : w.grownBy w' (some m)) : FactsAt (Nm X w') w' T := h.keep (fun _ hb => hb.kept hm hg) (fun _ hb => hb.grow hg.size)
theorem RG.grow {f : Frc} {p q : Int} (h : RG (Nm X w) w f p q) (hm : X m) (hg : w.grownBy w' (some m)) : RG (Nm X w') w' f p q := (h.keep (fun _ hb => hb.kept hm hg)).mono fun _ hb => hb.grow hg.size
theorem PT.At.grow {e : PT} (h : PT.At (Nm X w) w e) (hm : X m) (hg : w.grownBy w' (some m)) : PT.At (Nm X w') w' e := h.keep (fun _ hb => hb.kept hm hg) (fun _ hb => hb.grow hg.size)
/-- Boxes more, in which nothing lies that the finder reads. -/
def Mor (X Y : Nat → Prop) (w w' : World) : Prop := (∀ b, X b → Y b) ∧ ∀ b, Y b → X b ∨ (w.heap.size ≤ b ∧ b < w'.heap.size)
theorem Mor.refl (X : Nat → Prop) (w w' : World) : Mor X X w w' := ⟨fun _ h => h, fun _ h => .inl h⟩
theorem Mor.nm {Y : Nat → Prop} (h : Mor X Y w w') (hb : Below w.heap.size w w') {b : Nat} (hn : Nm X w b) : Nm Y w' b := ⟨Nat.lt_of_lt_of_le hn.1 hb.size, fun hy => by
  rcases h.2 b hy with hx | hx
  · exact hn.2 hx
  · have := hn.1; omega⟩
theorem PT.At.more {Y : Nat → Prop} {e : PT} (h : PT.At (Nm X w) w e) (hb : Below w.heap.size w w') (hY : Mor X Y w w') : PT.At (Nm Y w') w' e := h.keep (fun b hb' => hb.block b hb'.1) (fun _ hb' => hY.nm hb hb')
theorem RG.more {Y : Nat → Prop} {f : Frc} {p q : Int} (h : RG (Nm X w) w f p q) (hb : Below w.heap.size w w') (hY : Mor X Y w w') : RG (Nm Y w') w' f p q := (h.keep (fun b hb' => hb.block b hb'.1)).mono (fun _ hb' => hY.nm hb hb')
theorem FnSt.more {Y : Nat → Prop} (h : FnSt g m L T M X E w) (hb : Below w.heap.size w w') (hY : Mor X Y w w') : FnSt g m L T M Y E w' :=
  ⟨h.blk.later hb, h.map.later hb, h.lets.keep (fun b hb' => hb.block b hb'.1) (fun _ hb' => hY.nm hb hb'), h.trip.keep (fun b hb' => hb.block b hb'.1) (fun _ hb' => hY.nm hb hb'), h.memb.keep (fun b hb' => hb.block b hb'.1) (fun _ hb' => hY.nm hb hb'), fun p hp => by
    obtain ⟨k, f, h1, h2, h3, h4⟩ := h.memo p hp
    exact ⟨k, f, h1, h2, h3, h4.more hb hY⟩, h.uniq, h.gm, hY.1 m h.xm, fun b hy => by
    rcases hY.2 b hy with hx | hx
    · exact Nat.lt_of_lt_of_le (h.xlt b hx) hb.size
    · exact hx.2⟩
theorem FnSt.later (h : FnSt g m L T M X E w) (hb : Below w.heap.size w w') : FnSt g m L T M X E w' := h.more hb (Mor.refl _ _ _)
theorem Nm.less {Y : Nat → Prop} (hXY : ∀ b, X b → Y b) {b : Nat} (h : Nm Y w b) : Nm X w b := ⟨h.1, fun hx => h.2 (hXY b hx)⟩
theorem FnSt.less {Y : Nat → Prop} (h : FnSt g m L T M Y E w) (hXY : ∀ b, X b → Y b) (hm : X m) : FnSt g m L T M X E w :=
  ⟨h.blk, h.map, h.lets.mono fun _ hb => hb.less hXY, h.trip.mono fun _ hb => hb.less hXY, h.memb.mono fun _ hb => hb.less hXY, fun p hp => by
    obtain ⟨k, f, h1, h2, h3, h4⟩ := h.memo p hp
    exact ⟨k, f, h1, h2, h3, h4.mono fun _ hb => hb.less hXY⟩, h.uniq, h.gm, hm, fun b hx => h.xlt b (hXY b hx)⟩
/-- A store into a block that is none of the finder's. -/
theorem FnSt.set_ (h : FnSt g m L T M X E w) {a : Addr} (ha : X a.block) (hg : g ≠ a.block) (hm : m ≠ a.block) (u : Value) : FnSt g m L T M X E (w.setCell a u) := by
  have hk : ∀ b, Nm X w b → (w.setCell a u).heap[b]? = w.heap[b]? := fun b hb => Below.heap_setCell w a u b (fun e => hb.2 (by rw [e]; exact ha))
  have hn : ∀ b, Nm X w b → Nm X (w.setCell a u) b := fun b hb => ⟨by simpa using hb.1, hb.2⟩
  exact ⟨h.blk.far hg u, h.map.set_ hm u, h.lets.keep hk hn, h.trip.keep hk hn, h.memb.keep hk hn, fun p hp => by
    obtain ⟨k, f, h1, h2, h3, h4⟩ := h.memo p hp
    exact ⟨k, f, h1, h2, h3, (h4.keep hk).mono hn⟩, h.uniq, h.gm, h.xm, fun b hx => by simpa using h.xlt b hx⟩
/-- A value more. -/
theorem FnSt.store (h : FnSt g m L T M X E w) {k : Nat} {f : Frc} (hg : w.grownBy w' (some m)) (hm : MapI w' m (E ++ [((k : Int), f.v)])) (hno : ∀ p, p ∈ E → p.1 ≠ (k : Int))
    (h0 : (evOf L.l T.l M.l k).e = 0) (hf : RG (Nm X w) w f (evOf L.l T.l M.l k).p (evOf L.l T.l M.l k).q) : FnSt g m L T M X (E ++ [((k : Int), f.v)]) w' :=
  ⟨h.blk.gm hg h.gm, hm, h.lets.grow h.xm hg, h.trip.grow h.xm hg, h.memb.grow h.xm hg, fun p hp => by
    rcases List.mem_append.1 hp with hp | hp
    · obtain ⟨k, f, h1, h2, h3, h4⟩ := h.memo p hp
      exact ⟨k, f, h1, h2, h3, h4.grow h.xm hg⟩
    · rw [List.mem_singleton.1 hp]
      exact ⟨k, f, rfl, rfl, h0, hf.grow h.xm hg⟩, fun p q hp hq he => by
    rcases List.mem_append.1 hp with hp | hp <;> rcases List.mem_append.1 hq with hq | hq
    · exact h.uniq p q hp hq he
    · rw [List.mem_singleton.1 hq] at he
      exact absurd he (hno p hp)
    · rw [List.mem_singleton.1 hp] at he
      exact absurd he.symm (hno q hq)
    · rw [List.mem_singleton.1 hp, List.mem_singleton.1 hq], h.gm, h.xm, fun b hx => Nat.lt_of_lt_of_le (h.xlt b hx) hg.size⟩
/-- What is new is of lets before the n-th. -/
def NewE (E E' : List (Int × Value)) (n : Nat) : Prop := ∀ p, p ∈ E' → p ∈ E ∨ p.1 < (n : Int)
theorem NewE.refl (E : List (Int × Value)) (n : Nat) : NewE E E n := fun _ h => .inl h
theorem NewE.trans {E1 E2 E3 : List (Int × Value)} {n : Nat} (h1 : NewE E1 E2 n) (h2 : NewE E2 E3 n) : NewE E1 E3 n := fun p hp => by
  rcases h2 p hp with h | h
  · exact h1 p h
  · exact .inr h
/-- What a call of the finder gives: a value or a panic, and a state that has perhaps more values. -/
def FnP (g m : Nat) (L : Sl LT) (T M : Sl FT) (X : Nat → Prop) (E : List (Int × Value)) (n : Nat) (w w' : World) (r : FrR) (e : Ending) : Prop :=
  (r.e = 0 ∧ (∃ f : Frc, e = .returned f.v ∧ RG (Nm X w') w' f r.p r.q) ∨ r.e ≠ 0 ∧ e = ErrV r.e) ∧ (∃ E', FnSt g m L T M X E' w' ∧ NewE E E' n) ∧ w.grownBy w' (some m)
def FnB (g m : Nat) (L : Sl LT) (T M : Sl FT) (X : Nat → Prop) (E : List (Int × Value)) (n : Nat) (w w' : World) (r : FrR) (e : Ending) : Prop :=
  (r.e = 0 ∧ e = .returned (.bool (isF r)) ∨ r.e ≠ 0 ∧ e = ErrV r.e) ∧ (∃ E', FnSt g m L T M X E' w' ∧ NewE E E' n) ∧ w.grownBy w' (some m)
theorem FnP.cast {n : Nat} {r r' : FrR} {e : Ending} (h : r = r') (x : FnP g m L T M X E n w w' r' e) : FnP g m L T M X E n w w' r e := by rw [h]; exact x
/-- A value in memory (not in X), or a panic with an errno. -/
def ApP (X : Nat → Prop) (w w' : World) (r : FrR) (e : Ending) : Prop :=
  (r.e = 0 ∧ (∃ f : Frc, e = .returned f.v ∧ RG (Nm X w') w' f r.p r.q) ∨ r.e ≠ 0 ∧ e = ErrV r.e) ∧ Below w.heap.size w w'
theorem EvP.ap {r : FrR} {e : Ending} (h : EvP w w' r e) (hX : ∀ b, X b → b < w.heap.size) : ApP X w w' r e := by
  obtain ⟨h1, hb⟩ := h
  refine ⟨?_, hb⟩
  rcases h1 with ⟨h0, f, he, hf⟩ | h1
  · exact .inl ⟨h0, f, he, hf.mono fun b hb' => ⟨hb'.2, fun e => by have := hb'.1; have := hX b e; omega⟩⟩
  · exact .inr h1
theorem ApP.cast {r r' : FrR} {e : Ending} (h : r = r') (x : ApP X w w' r' e) : ApP X w w' r e := by rw [h]; exact x
theorem RG.st4x {f : Frc} {p q : Int} {g : Nat} {F : Nat → Prop} {x y z v : Value} (h : RG F w f p q) (h1 : ∀ b, F b → b ≠ g) : RG F ((((w.setCell ⟨g, 0, none⟩ x).setCell ⟨g, 1, none⟩ y).setCell ⟨g, 2, none⟩ z).setCell ⟨g, 3, none⟩ v) f p q :=
  ⟨rd_st4' h.P h1, rd_st4' h.Q h1, h.dp, h.dq, h.ok⟩
theorem RG.stX {f : Frc} {p q : Int} {g : Nat} {Y : Nat → Prop} {x y z v : Value} (h : RG (Nm Y w) w f p q) (h1 : Y g) (hXY : ∀ b, X b → Y b) : RG (Nm X ((((w.setCell ⟨g, 0, none⟩ x).setCell ⟨g, 1, none⟩ y).setCell ⟨g, 2, none⟩ z).setCell ⟨g, 3, none⟩ v)) ((((w.setCell ⟨g, 0, none⟩ x).setCell ⟨g, 1, none⟩ y).setCell ⟨g, 2, none⟩ z).setCell ⟨g, 3, none⟩ v) f p q :=
  (h.st4x (fun b hb e => hb.2 (by rw [e]; exact h1))).mono fun b hb => ⟨by simpa using hb.1, fun hx => hb.2 (hXY b hx)⟩
theorem FnSt.stX {Y : Nat → Prop} {a : Nat} {x y z v : Value} (h : FnSt g m L T M Y E w) (h1 : Y a) (hg : g ≠ a) (hm : m ≠ a) (hXY : ∀ b, X b → Y b) (hX : X m) : FnSt g m L T M X E ((((w.setCell ⟨a, 0, none⟩ x).setCell ⟨a, 1, none⟩ y).setCell ⟨a, 2, none⟩ z).setCell ⟨a, 3, none⟩ v) :=
  ((((h.set_ h1 hg hm x).set_ h1 hg hm y).set_ h1 hg hm z).set_ h1 hg hm v).less hXY hX
theorem grown_st4 {w0 : World} {a : Nat} {x y z v : Value} (h : w0.grownBy w (some m)) (ha : w0.heap.size ≤ a) : w0.grownBy ((((w.setCell ⟨a, 0, none⟩ x).setCell ⟨a, 1, none⟩ y).setCell ⟨a, 2, none⟩ z).setCell ⟨a, 3, none⟩ v) (some m) :=
  ⟨h.os, h.tape, h.output, by simpa using h.size, fun j hj hr => by
    have hne : j ≠ a := by omega
    rw [Below.heap_setCell _ _ _ j hne, Below.heap_setCell _ _ _ j hne, Below.heap_setCell _ _ _ j hne, Below.heap_setCell _ _ _ j hne]
    exact h.block j hj hr⟩
end
end Go.Proofs.YtcgocdhhneckhaaGreat
