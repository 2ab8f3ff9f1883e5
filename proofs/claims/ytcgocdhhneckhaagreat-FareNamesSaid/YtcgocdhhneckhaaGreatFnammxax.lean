/- Walk of frac.Compare. -/
import Derived.Test.YtcgocdhhneckhaaGreatFnammxaw
import Derived.Deep.LoopGhost
namespace Go.Proofs.YtcgocdhhneckhaaGreat
open Go.RowKit
section
variable {P : Program} {ops : Array Oper} {Q : Exit → Act → World → Prop} {md : Region.Mode} {S : World → Prop} {T : Nat → Bool}
theorem wpAnyT_three {i j l : Nat} {o o' o'' : Oper} {fuel : Nat} {listed : Array Bool} {a : Act} {w : World} (hr : Region.ready md ops listed = [i, j, l]) (ho : ops[i]? = some o) (ho' : ops[j]? = some o') (ho'' : ops[l]? = some o'')
    (h : wpList P ops (QT Q fun a' w' => (T i = false → S w') ∧ wpAnyT P md ops Q S T fuel (listed.setIfInBounds i true) a' w') [o] a w)
    (h' : wpList P ops (QT Q fun a' w' => (T j = false → S w') ∧ wpAnyT P md ops Q S T fuel (listed.setIfInBounds j true) a' w') [o'] a w)
    (h'' : wpList P ops (QT Q fun a' w' => (T l = false → S w') ∧ wpAnyT P md ops Q S T fuel (listed.setIfInBounds l true) a' w') [o''] a w) : wpAnyT P md ops Q S T (fuel + 1) listed a w := by
  refine ⟨fun h0 => ?_, fun k hk => ?_⟩
  · rw [hr] at h0; cases h0
  · rw [hr] at hk
    rcases List.mem_cons.1 hk with rfl | hk
    · exact wpOp_of_list ho h
    · rcases List.mem_cons.1 hk with rfl | hk
      · exact wpOp_of_list ho' h'
      · rcases List.mem_singleton.1 hk with rfl
        exact wpOp_of_list ho'' h''
theorem wpAnyT_four {i j l m : Nat} {o o' o'' o3 : Oper} {fuel : Nat} {listed : Array Bool} {a : Act} {w : World} (hr : Region.ready md ops listed = [i, j, l, m]) (ho : ops[i]? = some o) (ho' : ops[j]? = some o') (ho'' : ops[l]? = some o'') (ho3 : ops[m]? = some o3)
    (h : wpList P ops (QT Q fun a' w' => (T i = false → S w') ∧ wpAnyT P md ops Q S T fuel (listed.setIfInBounds i true) a' w') [o] a w)
    (h' : wpList P ops (QT Q fun a' w' => (T j = false → S w') ∧ wpAnyT P md ops Q S T fuel (listed.setIfInBounds j true) a' w') [o'] a w)
    (h'' : wpList P ops (QT Q fun a' w' => (T l = false → S w') ∧ wpAnyT P md ops Q S T fuel (listed.setIfInBounds l true) a' w') [o''] a w)
    (h3 : wpList P ops (QT Q fun a' w' => (T m = false → S w') ∧ wpAnyT P md ops Q S T fuel (listed.setIfInBounds m true) a' w') [o3] a w) : wpAnyT P md ops Q S T (fuel + 1) listed a w := by
  refine ⟨fun h0 => ?_, fun k hk => ?_⟩
  · rw [hr] at h0; cases h0
  · rw [hr] at hk
    rcases List.mem_cons.1 hk with rfl | hk
    · exact wpOp_of_list ho h
    · rcases List.mem_cons.1 hk with rfl | hk
      · exact wpOp_of_list ho' h'
      · rcases List.mem_cons.1 hk with rfl | hk
        · exact wpOp_of_list ho'' h''
        · rcases List.mem_singleton.1 hk with rfl
          exact wpOp_of_list ho3 h3
theorem wpAnyT_listed {fuel : Nat} {l l' : Array Bool} {a : Act} {w : World} (h : l = l') (hw : wpAnyT P md ops Q S T fuel l a w) : wpAnyT P md ops Q S T fuel l' a w := h ▸ hw
end
theorem six_keep {V : World} {n1 n2 n3 g' : Nat} {v1 v2 v3 v4 v5 v6 x y : Value} (h : V.cell? ⟨n1, 0, none⟩ = some v1 ∧ V.cell? ⟨n1, 1, none⟩ = some v2 ∧ V.cell? ⟨n2, 0, none⟩ = some v3 ∧ V.cell? ⟨n2, 1, none⟩ = some v4 ∧ V.cell? ⟨n3, 0, none⟩ = some v5 ∧ V.cell? ⟨n3, 1, none⟩ = some v6) (h1 : n1 ≠ g') (h2 : n2 ≠ g') (h3 : n3 ≠ g') : ((V.setCell ⟨g', 0, none⟩ x).setCell ⟨g', 1, none⟩ y).cell? ⟨n1, 0, none⟩ = some v1 ∧ ((V.setCell ⟨g', 0, none⟩ x).setCell ⟨g', 1, none⟩ y).cell? ⟨n1, 1, none⟩ = some v2 ∧ ((V.setCell ⟨g', 0, none⟩ x).setCell ⟨g', 1, none⟩ y).cell? ⟨n2, 0, none⟩ = some v3 ∧ ((V.setCell ⟨g', 0, none⟩ x).setCell ⟨g', 1, none⟩ y).cell? ⟨n2, 1, none⟩ = some v4 ∧ ((V.setCell ⟨g', 0, none⟩ x).setCell ⟨g', 1, none⟩ y).cell? ⟨n3, 0, none⟩ = some v5 ∧ ((V.setCell ⟨g', 0, none⟩ x).setCell ⟨g', 1, none⟩ y).cell? ⟨n3, 1, none⟩ = some v6 :=
  ⟨two_keep h.1 h1, two_keep h.2.1 h1, two_keep h.2.2.1 h2, two_keep h.2.2.2.1 h2, two_keep h.2.2.2.2.1 h3, two_keep h.2.2.2.2.2 h3⟩
def NG (g5 g6 g7 g8 b : Nat) : Prop := b ≠ g5 ∧ b ≠ g6 ∧ b ≠ g7 ∧ b ≠ g8
/-- A right integer whose digits lie in none of four boxes. -/
structure RX (g5 g6 g7 g8 : Nat) (W : World) (a : Big) (x : Int) : Prop where
  rd : Rd (fun b => b < W.heap.size ∧ NG g5 g6 g7 g8 b) 1 ienc W a.l
  s : a.s = x.sign
  l : a.l.l = digs x.natAbs
  fits : Fits x
theorem RX.rb {g5 g6 g7 g8 : Nat} {W : World} {a : Big} {x : Int} (h : RX g5 g6 g7 g8 W a x) : RB W a x := ⟨h.rd.mono fun _ hb => hb.1, h.s, h.l, h.fits⟩
theorem RX.later {g5 g6 g7 g8 : Nat} {W W' : World} {a : Big} {x : Int} (h : RX g5 g6 g7 g8 W a x) (hb : Below W.heap.size W W') : RX g5 g6 g7 g8 W' a x :=
  ⟨(h.rd.up (fun _ hb' => hb'.1) hb).mono fun _ hb' => ⟨Nat.lt_of_lt_of_le hb'.1 hb.size, hb'.2⟩, h.s, h.l, h.fits⟩
theorem RX.st {g5 g6 g7 g8 g : Nat} {W : World} {a : Big} {x : Int} {u v : Value} (h : RX g5 g6 g7 g8 W a x) (hg : ∀ b, NG g5 g6 g7 g8 b → b ≠ g) : RX g5 g6 g7 g8 ((W.setCell ⟨g, 0, none⟩ u).setCell ⟨g, 1, none⟩ v) a x :=
  ⟨((h.rd.far (fun b hb => hg b hb.2) _).far (fun b hb => hg b hb.2) _).mono fun b hb => ⟨by simpa using hb.1, hb.2⟩, h.s, h.l, h.fits⟩
theorem RX.old {g5 g6 g7 g8 n : Nat} {w W : World} {a : Big} {x : Int} (h : RB w a x) (hb : Below w.heap.size w W) (h5 : w.heap.size ≤ g5) (h6 : w.heap.size ≤ g6) (h7 : w.heap.size ≤ g7) (h8 : w.heap.size ≤ g8) : RX g5 g6 g7 g8 W a x :=
  ⟨(h.rd.up (fun _ hb' => hb') hb).mono fun b hb' => ⟨Nat.lt_of_lt_of_le hb' hb.size, by omega, by omega, by omega, by omega⟩, h.s, h.l, h.fits⟩
theorem RX.new {g5 g6 g7 g8 n : Nat} {W : World} {a : Big} {x : Int} (hr : Rd (Nw n W) 1 ienc W a.l) (hd : a.d = bigD x) (hf : Fits x) (h5 : g5 < n) (h6 : g6 < n) (h7 : g7 < n) (h8 : g8 < n) : RX g5 g6 g7 g8 W a x := by
  have h := RB.mk' hr.nwlt hd hf
  exact ⟨hr.mono fun b hb => ⟨hb.2, by have := hb.1; omega, by have := hb.1; omega, by have := hb.1; omega, by have := hb.1; omega⟩, h.s, h.l, h.fits⟩
structure CB (W : World) (g5 g6 g7 g8 : Nat) (A B C D : Big) : Prop where
  b5 : Blk W g5 69 #[.int .i64 A.s, .slice A.l.A A.l.l.length A.l.c]
  b6 : Blk W g6 69 #[.int .i64 B.s, .slice B.l.A B.l.l.length B.l.c]
  b7 : Blk W g7 69 #[.int .i64 C.s, .slice C.l.A C.l.l.length C.l.c]
  b8 : Blk W g8 69 #[.int .i64 D.s, .slice D.l.A D.l.l.length D.l.c]
theorem cmpI_ne {p q r s : Int} (hq : 0 < q) (hs : 0 < s) (h : p / q ≠ r / s) : cmpI p q r s = ucmp (p / q) (r / s) := by
  conv => lhs; unfold cmpI
  rw [dif_pos ⟨hq, hs⟩, if_pos h]
theorem cmpI_end {p q r s : Int} (hq : 0 < q) (hs : 0 < s) (h : p / q = r / s) (h0 : p % q = 0 ∨ r % s = 0) : cmpI p q r s = (p % q).sign - (r % s).sign := by
  conv => lhs; unfold cmpI
  rw [dif_pos ⟨hq, hs⟩, if_neg (fun h1 => h1 h), if_pos h0]
theorem cmpI_go {p q r s : Int} (hq : 0 < q) (hs : 0 < s) (h : p / q = r / s) (h0 : ¬ (p % q = 0 ∨ r % s = 0)) : cmpI p q r s = -cmpI q (p % q) s (r % s) := by
  conv => lhs; unfold cmpI
  rw [dif_pos ⟨hq, hs⟩, if_neg (fun h1 => h1 h), if_neg h0]
theorem fits_div {p q : Int} (hf : Fits p) (hq : 0 < q) : Fits (p / q) := by
  refine fits_le hf ?_
  by_cases hc : 0 ≤ p ∨ (p.natAbs : Int) % q = 0
  · have h := plain_abs (div_plain hq hc).1 hq
    have := Int.ediv_le_self (a := (p.natAbs : Int)) q (by omega)
    have := Int.ediv_nonneg (show (0 : Int) ≤ p.natAbs by omega) (show 0 ≤ q by omega)
    omega
  · obtain ⟨hc1, hc2⟩ := not_or.1 hc
    have h := (div_neg hq (by omega) hc2).1
    have e := Int.mul_ediv_add_emod (p.natAbs : Int) q
    have e1 := Int.emod_nonneg (p.natAbs : Int) (show q ≠ 0 by omega)
    have e2 := Int.ediv_nonneg (show (0 : Int) ≤ p.natAbs by omega) (show 0 ≤ q by omega)
    have e3 : 1 * ((p.natAbs : Int) / q) ≤ q * ((p.natAbs : Int) / q) := Int.mul_le_mul_of_nonneg_right (by omega) e2
    omega
theorem fits_mod {p q : Int} (hf : Fits q) (hq : 0 < q) : Fits (p % q) := by
  have e1 := Int.emod_nonneg p (show q ≠ 0 by omega)
  have e2 := Int.emod_lt_of_pos p hq
  exact fits_le hf (by omega)
def SFd (w : World) (f g : Frc) (W : World) : Prop := (W.cell? ⟨w.heap.size, 0, none⟩ = some (.int .i64 f.p.s) ∧ W.cell? ⟨w.heap.size, 1, none⟩ = some (.slice f.p.l.A f.p.l.l.length f.p.l.c) ∧ W.cell? ⟨w.heap.size, 2, none⟩ = some (.int .i64 f.q.s) ∧ W.cell? ⟨w.heap.size, 3, none⟩ = some (.slice f.q.l.A f.q.l.l.length f.q.l.c) ∧ W.cell? ⟨w.heap.size + 1, 0, none⟩ = some (.int .i64 g.p.s) ∧ W.cell? ⟨w.heap.size + 1, 1, none⟩ = some (.slice g.p.l.A g.p.l.l.length g.p.l.c) ∧ W.cell? ⟨w.heap.size + 1, 2, none⟩ = some (.int .i64 g.q.s) ∧ W.cell? ⟨w.heap.size + 1, 3, none⟩ = some (.slice g.q.l.A g.q.l.l.length g.q.l.c))
/-- Four boxes, wherever each of them lies. -/
structure AL4 (w2 W : World) (g5 g6 g7 g8 : Nat) : Prop where
  below : Below w2.heap.size w2 W
  b5 : Blk W g5 69 #[.int .i64 0, .slice none 0 0]
  b6 : Blk W g6 69 #[.int .i64 0, .slice none 0 0]
  b7 : Blk W g7 69 #[.int .i64 0, .slice none 0 0]
  b8 : Blk W g8 69 #[.int .i64 0, .slice none 0 0]
  n5 : w2.heap.size ≤ g5
  n6 : w2.heap.size ≤ g6
  n7 : w2.heap.size ≤ g7
  n8 : w2.heap.size ≤ g8
  d : g5 ≠ g6 ∧ g5 ≠ g7 ∧ g5 ≠ g8 ∧ g6 ≠ g7 ∧ g6 ≠ g8 ∧ g7 ≠ g8
theorem al4_blk {w : World} {g : Nat} (h0 : w.heap.size ≤ g) (h1 : g < w.heap.size + 4) : Blk (World.drew ((((w.alloc (.cells #[.int .i64 0, .slice none 0 0] 69)).alloc (.cells #[.int .i64 0, .slice none 0 0] 69)).alloc (.cells #[.int .i64 0, .slice none 0 0] 69)).alloc (.cells #[.int .i64 0, .slice none 0 0] 69))) g 69 #[.int .i64 0, .slice none 0 0] := by
  have l0 : w.heap.size < w.heap.size + 1 + 1 := by omega
  have l1 : w.heap.size < w.heap.size + 1 + 1 + 1 := by omega
  rcases (by omega : g = w.heap.size ∨ g = w.heap.size + 1 ∨ g = w.heap.size + 1 + 1 ∨ g = w.heap.size + 1 + 1 + 1) with rfl | rfl | rfl | rfl <;> exact Blk.drew (blk_here (by simp [hp_past, hp_at, l0, l1]))
theorem al4_of {w2 : World} {g5 g6 g7 g8 : Nat} (h5 : w2.heap.size ≤ g5 ∧ g5 < w2.heap.size + 4) (h6 : w2.heap.size ≤ g6 ∧ g6 < w2.heap.size + 4) (h7 : w2.heap.size ≤ g7 ∧ g7 < w2.heap.size + 4) (h8 : w2.heap.size ≤ g8 ∧ g8 < w2.heap.size + 4)
    (d1 : g5 ≠ g6) (d2 : g5 ≠ g7) (d3 : g5 ≠ g8) (d4 : g6 ≠ g7) (d5 : g6 ≠ g8) (d6 : g7 ≠ g8) : AL4 w2 (World.drew ((((w2.alloc (.cells #[.int .i64 0, .slice none 0 0] 69)).alloc (.cells #[.int .i64 0, .slice none 0 0] 69)).alloc (.cells #[.int .i64 0, .slice none 0 0] 69)).alloc (.cells #[.int .i64 0, .slice none 0 0] 69))) g5 g6 g7 g8 :=
  ⟨qbl, al4_blk h5.1 h5.2, al4_blk h6.1 h6.2, al4_blk h7.1 h7.2, al4_blk h8.1 h8.2, h5.1, h6.1, h7.1, h8.1, d1, d2, d3, d4, d5, d6⟩
set_option maxRecDepth 100000 in
set_option maxHeartbeats 6400000 in
theorem frac_cmp (f g : Frc) (p q r s : Int) (w : World) (hf : RF w f p q) (hg : RF w g r s) :
    Calls Tryz.prog 84 #[f.v, g.v] w fun e w' => e = .returned (.int .i64 (cmpI p q r s)) ∧ Below w.heap.size w w' := by
  have HF := Lib.hid hf
  have HG := Lib.hid hg
  clear hf hg
  simp only [Frc.v]
  go_enter Tryz.func84, Tryz.ntmps84
  go_wp2_with fail
  refine (frac_right f p q _ (HF.out.later qbl)).mono ?_
  rintro e w1 ⟨rfl, hb1⟩
  have K_a : Blk _ (w.heap.size) 71 #[.int .i64 f.p.s, .slice f.p.l.A f.p.l.l.length f.p.l.c, .int .i64 f.q.s, .slice f.q.l.A f.q.l.l.length f.q.l.c] := qkb hb1
  obtain ⟨a0, a1, a2, a3, af, az⟩ := Blk.b4 K_a
  have B_a := Lib.hid K_a
  clear K_a
  have K_b : Blk _ (w.heap.size + 1) 71 #[.int .i64 g.p.s, .slice g.p.l.A g.p.l.l.length g.p.l.c, .int .i64 g.q.s, .slice g.q.l.A g.q.l.l.length g.q.l.c] := qkb hb1
  obtain ⟨b0, b1, b2, b3, bf, bz⟩ := Blk.b4 K_b
  have B_b := Lib.hid K_b
  clear K_b
  have hB1 : Below w.heap.size w w1 := qbv
  clear hb1
  go_wp2_with fail
  refine (frac_right g r s _ (HG.out.later hB1)).mono ?_
  rintro e w2 ⟨rfl, hb2⟩
  clear a0 a1 a2 a3 af az b0 b1 b2 b3 bf bz
  have K_a : Blk _ (w.heap.size) 71 #[.int .i64 f.p.s, .slice f.p.l.A f.p.l.l.length f.p.l.c, .int .i64 f.q.s, .slice f.q.l.A f.q.l.l.length f.q.l.c] := qkc B_a hb2
  obtain ⟨a0, a1, a2, a3, af, az⟩ := Blk.b4 K_a
  have B_a := Lib.hid K_a
  clear K_a
  have K_b : Blk _ (w.heap.size + 1) 71 #[.int .i64 g.p.s, .slice g.p.l.A g.p.l.l.length g.p.l.c, .int .i64 g.q.s, .slice g.q.l.A g.q.l.l.length g.q.l.c] := qkc B_b hb2
  obtain ⟨b0, b1, b2, b3, bf, bz⟩ := Blk.b4 K_b
  have B_b := Lib.hid K_b
  clear K_b
  have HB2 : Hid (Below w.heap.size w w2) := Lib.hid qbv
  have hz2 : w.heap.size + 1 < w2.heap.size := bz
  clear hb2
  go_wp2_with fail
  have HSS : Hid (∀ W : World, Below w2.heap.size w2 W → W.cell? ⟨w.heap.size, 0, none⟩ = some (.int .i64 f.p.s) ∧ W.cell? ⟨w.heap.size, 1, none⟩ = some (.slice f.p.l.A f.p.l.l.length f.p.l.c) ∧ W.cell? ⟨w.heap.size, 2, none⟩ = some (.int .i64 f.q.s) ∧ W.cell? ⟨w.heap.size, 3, none⟩ = some (.slice f.q.l.A f.q.l.l.length f.q.l.c) ∧ W.cell? ⟨w.heap.size + 1, 0, none⟩ = some (.int .i64 g.p.s) ∧ W.cell? ⟨w.heap.size + 1, 1, none⟩ = some (.slice g.p.l.A g.p.l.l.length g.p.l.c) ∧ W.cell? ⟨w.heap.size + 1, 2, none⟩ = some (.int .i64 g.q.s) ∧ W.cell? ⟨w.heap.size + 1, 3, none⟩ = some (.slice g.q.l.A g.q.l.l.length g.q.l.c)) := Lib.hid (fun W hW => ⟨keep_cell hW a0, keep_cell hW a1, keep_cell hW a2, keep_cell hW a3, keep_cell hW b0, keep_cell hW b1, keep_cell hW b2, keep_cell hW b3⟩)
  clear a0 a1 a2 a3 af az b0 b1 b2 b3 bf bz
  have HA1 : Hid (Below w2.heap.size w2 (World.drew (w2.alloc (.cells #[.int .i64 0, .slice none 0 0] 69)))) := Lib.hid qbl
  have HA2 : Hid (Below w2.heap.size w2 (World.drew ((w2.alloc (.cells #[.int .i64 0, .slice none 0 0] 69)).alloc (.cells #[.int .i64 0, .slice none 0 0] 69)))) := Lib.hid qbl
  have HA3 : Hid (Below w2.heap.size w2 (World.drew (((w2.alloc (.cells #[.int .i64 0, .slice none 0 0] 69)).alloc (.cells #[.int .i64 0, .slice none 0 0] 69)).alloc (.cells #[.int .i64 0, .slice none 0 0] 69)))) := Lib.hid qbl
  have HA4 : Hid (Below w2.heap.size w2 (World.drew ((((w2.alloc (.cells #[.int .i64 0, .slice none 0 0] 69)).alloc (.cells #[.int .i64 0, .slice none 0 0] 69)).alloc (.cells #[.int .i64 0, .slice none 0 0] 69)).alloc (.cells #[.int .i64 0, .slice none 0 0] 69)))) := Lib.hid qbl
  refine wp_region_T (fun W => W.cell? ⟨w.heap.size, 0, none⟩ = some (.int .i64 f.p.s) ∧ W.cell? ⟨w.heap.size, 1, none⟩ = some (.slice f.p.l.A f.p.l.l.length f.p.l.c) ∧ W.cell? ⟨w.heap.size, 2, none⟩ = some (.int .i64 f.q.s) ∧ W.cell? ⟨w.heap.size, 3, none⟩ = some (.slice f.q.l.A f.q.l.l.length f.q.l.c) ∧ W.cell? ⟨w.heap.size + 1, 0, none⟩ = some (.int .i64 g.p.s) ∧ W.cell? ⟨w.heap.size + 1, 1, none⟩ = some (.slice g.p.l.A g.p.l.l.length g.p.l.c) ∧ W.cell? ⟨w.heap.size + 1, 2, none⟩ = some (.int .i64 g.q.s) ∧ W.cell? ⟨w.heap.size + 1, 3, none⟩ = some (.slice g.q.l.A g.q.l.l.length g.q.l.c)) (fun i => 15 ≤ i) (by kernel_rfl) (by exact HSS.out w2 (Below.refl _ _)) (fun hHeld => ?_)
  refine qtq 0 ?_
  simp only [qsa, qsb, qsc]
  refine qtq 1 ?_
  simp only [qsa, qsb, qsc]
  refine qtq 2 ?_
  simp only [qsa, qsb, qsc]
  refine qtq 3 ?_
  simp only [qsa, qsb, qsc]
  refine qtq 4 ?_
  simp only [qsa, qsb, qsc]
  refine qtq 5 ?_
  simp only [qsa, qsb, qsc]
  refine qtq 6 ?_
  simp only [qsa, qsb, qsc]
  refine qtq 7 ?_
  simp only [qsa, qsb, qsc]
  clear hHeld
  apply cutT
  · intro fin0
    have FIN := Lib.hid fin0
    clear fin0
    refine wpAnyT_four (i := 8) (j := 9) (l := 10) (m := 11) (by kernel_rfl) rfl rfl rfl rfl ?_ ?_ ?_ ?_
    · skip
      go_wp2_with fail
      refine And.intro (by first | exact fun _ => HSS.out _ HA1.out | exact HSS.out _ HA1.out) ?_
      refine wpAnyT_three (i := 9) (j := 10) (l := 11) (by kernel_rfl) rfl rfl rfl ?_ ?_ ?_
      · skip
        go_wp2_with fail
        refine And.intro (by first | exact fun _ => HSS.out _ HA2.out | exact HSS.out _ HA2.out) ?_
        refine wpAnyT_two (i := 10) (j := 11) (by kernel_rfl) rfl rfl ?_ ?_
        · skip
          go_wp2_with fail
          refine And.intro (by first | exact fun _ => HSS.out _ HA3.out | exact HSS.out _ HA3.out) ?_
          refine wpAnyT_next (i := 11) (by kernel_rfl) rfl ?_
          go_wp2_with fail
          refine And.intro (by first | exact fun _ => HSS.out _ HA4.out | exact HSS.out _ HA4.out) ?_
          obtain ⟨W, hW⟩ : ∃ W, W = (World.drew ((((w2.alloc (.cells #[.int .i64 0, .slice none 0 0] 69)).alloc (.cells #[.int .i64 0, .slice none 0 0] 69)).alloc (.cells #[.int .i64 0, .slice none 0 0] 69)).alloc (.cells #[.int .i64 0, .slice none 0 0] 69))) := ⟨_, rfl⟩
          obtain ⟨g8, hg8⟩ : ∃ g, g = w2.heap.size + 1 + 1 + 1 := ⟨_, rfl⟩
          obtain ⟨g7, hg7⟩ : ∃ g, g = w2.heap.size + 1 + 1 := ⟨_, rfl⟩
          obtain ⟨g6, hg6⟩ : ∃ g, g = w2.heap.size + 1 := ⟨_, rfl⟩
          obtain ⟨g5, hg5⟩ : ∃ g, g = w2.heap.size := ⟨_, rfl⟩
          have ALL : Hid (AL4 w2 W g5 g6 g7 g8) := Lib.hid (by rw [hW]; exact al4_of (by omega) (by omega) (by omega) (by omega) (by omega) (by omega) (by omega) (by omega) (by omega) (by omega))
          rw [← hW, ← hg8, ← hg7, ← hg6, ← hg5]
          clear hW hg8 hg7 hg6 hg5
          revert ALL
          revert W
          revert g8
          revert g7
          revert g6
          revert g5
          exact FIN.out
        · skip
          go_wp2_with fail
          refine And.intro (by first | exact fun _ => HSS.out _ HA3.out | exact HSS.out _ HA3.out) ?_
          refine wpAnyT_next (i := 10) (by kernel_rfl) rfl ?_
          go_wp2_with fail
          refine And.intro (by first | exact fun _ => HSS.out _ HA4.out | exact HSS.out _ HA4.out) ?_
          exact wpAnyT_listed (by kernel_rfl) (FIN.out _ _ _ _ _ (Lib.hid (al4_of (by omega) (by omega) (by omega) (by omega) (by omega) (by omega) (by omega) (by omega) (by omega) (by omega))))
      · skip
        go_wp2_with fail
        refine And.intro (by first | exact fun _ => HSS.out _ HA2.out | exact HSS.out _ HA2.out) ?_
        refine wpAnyT_two (i := 9) (j := 11) (by kernel_rfl) rfl rfl ?_ ?_
        · skip
          go_wp2_with fail
          refine And.intro (by first | exact fun _ => HSS.out _ HA3.out | exact HSS.out _ HA3.out) ?_
          refine wpAnyT_next (i := 11) (by kernel_rfl) rfl ?_
          go_wp2_with fail
          refine And.intro (by first | exact fun _ => HSS.out _ HA4.out | exact HSS.out _ HA4.out) ?_
          exact wpAnyT_listed (by kernel_rfl) (FIN.out _ _ _ _ _ (Lib.hid (al4_of (by omega) (by omega) (by omega) (by omega) (by omega) (by omega) (by omega) (by omega) (by omega) (by omega))))
        · skip
          go_wp2_with fail
          refine And.intro (by first | exact fun _ => HSS.out _ HA3.out | exact HSS.out _ HA3.out) ?_
          refine wpAnyT_next (i := 9) (by kernel_rfl) rfl ?_
          go_wp2_with fail
          refine And.intro (by first | exact fun _ => HSS.out _ HA4.out | exact HSS.out _ HA4.out) ?_
          exact wpAnyT_listed (by kernel_rfl) (FIN.out _ _ _ _ _ (Lib.hid (al4_of (by omega) (by omega) (by omega) (by omega) (by omega) (by omega) (by omega) (by omega) (by omega) (by omega))))
      · skip
        go_wp2_with fail
        refine And.intro (by first | exact fun _ => HSS.out _ HA2.out | exact HSS.out _ HA2.out) ?_
        refine wpAnyT_two (i := 9) (j := 10) (by kernel_rfl) rfl rfl ?_ ?_
        · skip
          go_wp2_with fail
          refine And.intro (by first | exact fun _ => HSS.out _ HA3.out | exact HSS.out _ HA3.out) ?_
          refine wpAnyT_next (i := 10) (by kernel_rfl) rfl ?_
          go_wp2_with fail
          refine And.intro (by first | exact fun _ => HSS.out _ HA4.out | exact HSS.out _ HA4.out) ?_
          exact wpAnyT_listed (by kernel_rfl) (FIN.out _ _ _ _ _ (Lib.hid (al4_of (by omega) (by omega) (by omega) (by omega) (by omega) (by omega) (by omega) (by omega) (by omega) (by omega))))
        · skip
          go_wp2_with fail
          refine And.intro (by first | exact fun _ => HSS.out _ HA3.out | exact HSS.out _ HA3.out) ?_
          refine wpAnyT_next (i := 9) (by kernel_rfl) rfl ?_
          go_wp2_with fail
          refine And.intro (by first | exact fun _ => HSS.out _ HA4.out | exact HSS.out _ HA4.out) ?_
          exact wpAnyT_listed (by kernel_rfl) (FIN.out _ _ _ _ _ (Lib.hid (al4_of (by omega) (by omega) (by omega) (by omega) (by omega) (by omega) (by omega) (by omega) (by omega) (by omega))))
    · skip
      go_wp2_with fail
      refine And.intro (by first | exact fun _ => HSS.out _ HA1.out | exact HSS.out _ HA1.out) ?_
      refine wpAnyT_three (i := 8) (j := 10) (l := 11) (by kernel_rfl) rfl rfl rfl ?_ ?_ ?_
      · skip
        go_wp2_with fail
        refine And.intro (by first | exact fun _ => HSS.out _ HA2.out | exact HSS.out _ HA2.out) ?_
        refine wpAnyT_two (i := 10) (j := 11) (by kernel_rfl) rfl rfl ?_ ?_
        · skip
          go_wp2_with fail
          refine And.intro (by first | exact fun _ => HSS.out _ HA3.out | exact HSS.out _ HA3.out) ?_
          refine wpAnyT_next (i := 11) (by kernel_rfl) rfl ?_
          go_wp2_with fail
          refine And.intro (by first | exact fun _ => HSS.out _ HA4.out | exact HSS.out _ HA4.out) ?_
          exact wpAnyT_listed (by kernel_rfl) (FIN.out _ _ _ _ _ (Lib.hid (al4_of (by omega) (by omega) (by omega) (by omega) (by omega) (by omega) (by omega) (by omega) (by omega) (by omega))))
        · skip
          go_wp2_with fail
          refine And.intro (by first | exact fun _ => HSS.out _ HA3.out | exact HSS.out _ HA3.out) ?_
          refine wpAnyT_next (i := 10) (by kernel_rfl) rfl ?_
          go_wp2_with fail
          refine And.intro (by first | exact fun _ => HSS.out _ HA4.out | exact HSS.out _ HA4.out) ?_
          exact wpAnyT_listed (by kernel_rfl) (FIN.out _ _ _ _ _ (Lib.hid (al4_of (by omega) (by omega) (by omega) (by omega) (by omega) (by omega) (by omega) (by omega) (by omega) (by omega))))
      · skip
        go_wp2_with fail
        refine And.intro (by first | exact fun _ => HSS.out _ HA2.out | exact HSS.out _ HA2.out) ?_
        refine wpAnyT_two (i := 8) (j := 11) (by kernel_rfl) rfl rfl ?_ ?_
        · skip
          go_wp2_with fail
          refine And.intro (by first | exact fun _ => HSS.out _ HA3.out | exact HSS.out _ HA3.out) ?_
          refine wpAnyT_next (i := 11) (by kernel_rfl) rfl ?_
          go_wp2_with fail
          refine And.intro (by first | exact fun _ => HSS.out _ HA4.out | exact HSS.out _ HA4.out) ?_
          exact wpAnyT_listed (by kernel_rfl) (FIN.out _ _ _ _ _ (Lib.hid (al4_of (by omega) (by omega) (by omega) (by omega) (by omega) (by omega) (by omega) (by omega) (by omega) (by omega))))
        · skip
          go_wp2_with fail
          refine And.intro (by first | exact fun _ => HSS.out _ HA3.out | exact HSS.out _ HA3.out) ?_
          refine wpAnyT_next (i := 8) (by kernel_rfl) rfl ?_
          go_wp2_with fail
          refine And.intro (by first | exact fun _ => HSS.out _ HA4.out | exact HSS.out _ HA4.out) ?_
          exact wpAnyT_listed (by kernel_rfl) (FIN.out _ _ _ _ _ (Lib.hid (al4_of (by omega) (by omega) (by omega) (by omega) (by omega) (by omega) (by omega) (by omega) (by omega) (by omega))))
      · skip
        go_wp2_with fail
        refine And.intro (by first | exact fun _ => HSS.out _ HA2.out | exact HSS.out _ HA2.out) ?_
        refine wpAnyT_two (i := 8) (j := 10) (by kernel_rfl) rfl rfl ?_ ?_
        · skip
          go_wp2_with fail
          refine And.intro (by first | exact fun _ => HSS.out _ HA3.out | exact HSS.out _ HA3.out) ?_
          refine wpAnyT_next (i := 10) (by kernel_rfl) rfl ?_
          go_wp2_with fail
          refine And.intro (by first | exact fun _ => HSS.out _ HA4.out | exact HSS.out _ HA4.out) ?_
          exact wpAnyT_listed (by kernel_rfl) (FIN.out _ _ _ _ _ (Lib.hid (al4_of (by omega) (by omega) (by omega) (by omega) (by omega) (by omega) (by omega) (by omega) (by omega) (by omega))))
        · skip
          go_wp2_with fail
          refine And.intro (by first | exact fun _ => HSS.out _ HA3.out | exact HSS.out _ HA3.out) ?_
          refine wpAnyT_next (i := 8) (by kernel_rfl) rfl ?_
          go_wp2_with fail
          refine And.intro (by first | exact fun _ => HSS.out _ HA4.out | exact HSS.out _ HA4.out) ?_
          exact wpAnyT_listed (by kernel_rfl) (FIN.out _ _ _ _ _ (Lib.hid (al4_of (by omega) (by omega) (by omega) (by omega) (by omega) (by omega) (by omega) (by omega) (by omega) (by omega))))
    · skip
      go_wp2_with fail
      refine And.intro (by first | exact fun _ => HSS.out _ HA1.out | exact HSS.out _ HA1.out) ?_
      refine wpAnyT_three (i := 8) (j := 9) (l := 11) (by kernel_rfl) rfl rfl rfl ?_ ?_ ?_
      · skip
        go_wp2_with fail
        refine And.intro (by first | exact fun _ => HSS.out _ HA2.out | exact HSS.out _ HA2.out) ?_
        refine wpAnyT_two (i := 9) (j := 11) (by kernel_rfl) rfl rfl ?_ ?_
        · skip
          go_wp2_with fail
          refine And.intro (by first | exact fun _ => HSS.out _ HA3.out | exact HSS.out _ HA3.out) ?_
          refine wpAnyT_next (i := 11) (by kernel_rfl) rfl ?_
          go_wp2_with fail
          refine And.intro (by first | exact fun _ => HSS.out _ HA4.out | exact HSS.out _ HA4.out) ?_
          exact wpAnyT_listed (by kernel_rfl) (FIN.out _ _ _ _ _ (Lib.hid (al4_of (by omega) (by omega) (by omega) (by omega) (by omega) (by omega) (by omega) (by omega) (by omega) (by omega))))
        · skip
          go_wp2_with fail
          refine And.intro (by first | exact fun _ => HSS.out _ HA3.out | exact HSS.out _ HA3.out) ?_
          refine wpAnyT_next (i := 9) (by kernel_rfl) rfl ?_
          go_wp2_with fail
          refine And.intro (by first | exact fun _ => HSS.out _ HA4.out | exact HSS.out _ HA4.out) ?_
          exact wpAnyT_listed (by kernel_rfl) (FIN.out _ _ _ _ _ (Lib.hid (al4_of (by omega) (by omega) (by omega) (by omega) (by omega) (by omega) (by omega) (by omega) (by omega) (by omega))))
      · skip
        go_wp2_with fail
        refine And.intro (by first | exact fun _ => HSS.out _ HA2.out | exact HSS.out _ HA2.out) ?_
        refine wpAnyT_two (i := 8) (j := 11) (by kernel_rfl) rfl rfl ?_ ?_
        · skip
          go_wp2_with fail
          refine And.intro (by first | exact fun _ => HSS.out _ HA3.out | exact HSS.out _ HA3.out) ?_
          refine wpAnyT_next (i := 11) (by kernel_rfl) rfl ?_
          go_wp2_with fail
          refine And.intro (by first | exact fun _ => HSS.out _ HA4.out | exact HSS.out _ HA4.out) ?_
          exact wpAnyT_listed (by kernel_rfl) (FIN.out _ _ _ _ _ (Lib.hid (al4_of (by omega) (by omega) (by omega) (by omega) (by omega) (by omega) (by omega) (by omega) (by omega) (by omega))))
        · skip
          go_wp2_with fail
          refine And.intro (by first | exact fun _ => HSS.out _ HA3.out | exact HSS.out _ HA3.out) ?_
          refine wpAnyT_next (i := 8) (by kernel_rfl) rfl ?_
          go_wp2_with fail
          refine And.intro (by first | exact fun _ => HSS.out _ HA4.out | exact HSS.out _ HA4.out) ?_
          exact wpAnyT_listed (by kernel_rfl) (FIN.out _ _ _ _ _ (Lib.hid (al4_of (by omega) (by omega) (by omega) (by omega) (by omega) (by omega) (by omega) (by omega) (by omega) (by omega))))
      · skip
        go_wp2_with fail
        refine And.intro (by first | exact fun _ => HSS.out _ HA2.out | exact HSS.out _ HA2.out) ?_
        refine wpAnyT_two (i := 8) (j := 9) (by kernel_rfl) rfl rfl ?_ ?_
        · skip
          go_wp2_with fail
          refine And.intro (by first | exact fun _ => HSS.out _ HA3.out | exact HSS.out _ HA3.out) ?_
          refine wpAnyT_next (i := 9) (by kernel_rfl) rfl ?_
          go_wp2_with fail
          refine And.intro (by first | exact fun _ => HSS.out _ HA4.out | exact HSS.out _ HA4.out) ?_
          exact wpAnyT_listed (by kernel_rfl) (FIN.out _ _ _ _ _ (Lib.hid (al4_of (by omega) (by omega) (by omega) (by omega) (by omega) (by omega) (by omega) (by omega) (by omega) (by omega))))
        · skip
          go_wp2_with fail
          refine And.intro (by first | exact fun _ => HSS.out _ HA3.out | exact HSS.out _ HA3.out) ?_
          refine wpAnyT_next (i := 8) (by kernel_rfl) rfl ?_
          go_wp2_with fail
          refine And.intro (by first | exact fun _ => HSS.out _ HA4.out | exact HSS.out _ HA4.out) ?_
          exact wpAnyT_listed (by kernel_rfl) (FIN.out _ _ _ _ _ (Lib.hid (al4_of (by omega) (by omega) (by omega) (by omega) (by omega) (by omega) (by omega) (by omega) (by omega) (by omega))))
    · skip
      go_wp2_with fail
      refine And.intro (by first | exact fun _ => HSS.out _ HA1.out | exact HSS.out _ HA1.out) ?_
      refine wpAnyT_three (i := 8) (j := 9) (l := 10) (by kernel_rfl) rfl rfl rfl ?_ ?_ ?_
      · skip
        go_wp2_with fail
        refine And.intro (by first | exact fun _ => HSS.out _ HA2.out | exact HSS.out _ HA2.out) ?_
        refine wpAnyT_two (i := 9) (j := 10) (by kernel_rfl) rfl rfl ?_ ?_
        · skip
          go_wp2_with fail
          refine And.intro (by first | exact fun _ => HSS.out _ HA3.out | exact HSS.out _ HA3.out) ?_
          refine wpAnyT_next (i := 10) (by kernel_rfl) rfl ?_
          go_wp2_with fail
          refine And.intro (by first | exact fun _ => HSS.out _ HA4.out | exact HSS.out _ HA4.out) ?_
          exact wpAnyT_listed (by kernel_rfl) (FIN.out _ _ _ _ _ (Lib.hid (al4_of (by omega) (by omega) (by omega) (by omega) (by omega) (by omega) (by omega) (by omega) (by omega) (by omega))))
        · skip
          go_wp2_with fail
          refine And.intro (by first | exact fun _ => HSS.out _ HA3.out | exact HSS.out _ HA3.out) ?_
          refine wpAnyT_next (i := 9) (by kernel_rfl) rfl ?_
          go_wp2_with fail
          refine And.intro (by first | exact fun _ => HSS.out _ HA4.out | exact HSS.out _ HA4.out) ?_
          exact wpAnyT_listed (by kernel_rfl) (FIN.out _ _ _ _ _ (Lib.hid (al4_of (by omega) (by omega) (by omega) (by omega) (by omega) (by omega) (by omega) (by omega) (by omega) (by omega))))
      · skip
        go_wp2_with fail
        refine And.intro (by first | exact fun _ => HSS.out _ HA2.out | exact HSS.out _ HA2.out) ?_
        refine wpAnyT_two (i := 8) (j := 10) (by kernel_rfl) rfl rfl ?_ ?_
        · skip
          go_wp2_with fail
          refine And.intro (by first | exact fun _ => HSS.out _ HA3.out | exact HSS.out _ HA3.out) ?_
          refine wpAnyT_next (i := 10) (by kernel_rfl) rfl ?_
          go_wp2_with fail
          refine And.intro (by first | exact fun _ => HSS.out _ HA4.out | exact HSS.out _ HA4.out) ?_
          exact wpAnyT_listed (by kernel_rfl) (FIN.out _ _ _ _ _ (Lib.hid (al4_of (by omega) (by omega) (by omega) (by omega) (by omega) (by omega) (by omega) (by omega) (by omega) (by omega))))
        · skip
          go_wp2_with fail
          refine And.intro (by first | exact fun _ => HSS.out _ HA3.out | exact HSS.out _ HA3.out) ?_
          refine wpAnyT_next (i := 8) (by kernel_rfl) rfl ?_
          go_wp2_with fail
          refine And.intro (by first | exact fun _ => HSS.out _ HA4.out | exact HSS.out _ HA4.out) ?_
          exact wpAnyT_listed (by kernel_rfl) (FIN.out _ _ _ _ _ (Lib.hid (al4_of (by omega) (by omega) (by omega) (by omega) (by omega) (by omega) (by omega) (by omega) (by omega) (by omega))))
      · skip
        go_wp2_with fail
        refine And.intro (by first | exact fun _ => HSS.out _ HA2.out | exact HSS.out _ HA2.out) ?_
        refine wpAnyT_two (i := 8) (j := 9) (by kernel_rfl) rfl rfl ?_ ?_
        · skip
          go_wp2_with fail
          refine And.intro (by first | exact fun _ => HSS.out _ HA3.out | exact HSS.out _ HA3.out) ?_
          refine wpAnyT_next (i := 9) (by kernel_rfl) rfl ?_
          go_wp2_with fail
          refine And.intro (by first | exact fun _ => HSS.out _ HA4.out | exact HSS.out _ HA4.out) ?_
          exact wpAnyT_listed (by kernel_rfl) (FIN.out _ _ _ _ _ (Lib.hid (al4_of (by omega) (by omega) (by omega) (by omega) (by omega) (by omega) (by omega) (by omega) (by omega) (by omega))))
        · skip
          go_wp2_with fail
          refine And.intro (by first | exact fun _ => HSS.out _ HA3.out | exact HSS.out _ HA3.out) ?_
          refine wpAnyT_next (i := 8) (by kernel_rfl) rfl ?_
          go_wp2_with fail
          refine And.intro (by first | exact fun _ => HSS.out _ HA4.out | exact HSS.out _ HA4.out) ?_
          exact wpAnyT_listed (by kernel_rfl) (FIN.out _ _ _ _ _ (Lib.hid (al4_of (by omega) (by omega) (by omega) (by omega) (by omega) (by omega) (by omega) (by omega) (by omega) (by omega))))
  · intro g5 g6 g7 g8 W ALL
    clear HA1 HA2 HA3 HA4
    have HS2 : Hid (∀ (V : World) (g' : Nat) (x y : Value), w2.heap.size ≤ g' → SFd w f g V → SFd w f g ((V.setCell ⟨g', 0, none⟩ x).setCell ⟨g', 1, none⟩ y)) := Lib.hid (fun V g' x y hg' hS => by
      have h1 : w.heap.size ≠ g' := by omega
      have h2 : w.heap.size + 1 ≠ g' := by omega
      exact ⟨two_keep hS.1 h1, two_keep hS.2.1 h1, two_keep hS.2.2.1 h1, two_keep hS.2.2.2.1 h1, two_keep hS.2.2.2.2.1 h2, two_keep hS.2.2.2.2.2.1 h2, two_keep hS.2.2.2.2.2.2.1 h2, two_keep hS.2.2.2.2.2.2.2 h2⟩)
    have hS0 : SFd w f g W := HSS.out W ALL.out.below
    obtain ⟨hd56, hd57, hd58, hd67, hd68, hd78⟩ := ALL.out.d
    have m5 := ALL.out.n5
    have m6 := ALL.out.n6
    have m7 := ALL.out.n7
    have m8 := ALL.out.n8
    have B5 := Lib.hid ALL.out.b5
    have B6 := Lib.hid ALL.out.b6
    have B7 := Lib.hid ALL.out.b7
    have B8 := Lib.hid ALL.out.b8
    obtain ⟨x0, x1, xf, xz⟩ := B5.out.b2
    have hS1 := HS2.out W g5 (.int .i64 f.p.s) (.slice f.p.l.A f.p.l.l.length f.p.l.c) m5 hS0
    have HH0 := Lib.hid hS0
    have HH1 := Lib.hid hS1
    clear hS0 hS1
    refine wpAnyT_next (i := 12) (by kernel_rfl) rfl ?_
    go_wp2_with fail
    refine And.intro (by first | exact fun _ => HH1.out | exact HH1.out) ?_
    clear x0 x1 xf xz
    obtain ⟨W1, hW1⟩ : ∃ V, V = ((W.setCell ⟨g5, 0, none⟩ (.int .i64 f.p.s)).setCell ⟨g5, 1, none⟩ (.slice f.p.l.A f.p.l.l.length f.p.l.c)) := ⟨_, rfl⟩
    have C5 : Hid (Blk W1 g5 69 #[.int .i64 f.p.s, .slice f.p.l.A f.p.l.l.length f.p.l.c]) := Lib.hid (by rw [hW1]; exact (B5.out.set_ 0 _).set_ 1 _)
    have C6 : Hid (Blk W1 g6 69 #[.int .i64 0, .slice none 0 0]) := Lib.hid (by rw [hW1]; exact Blk.farr (Ne.symm hd56) (Blk.farr (Ne.symm hd56) B6.out))
    have C7 : Hid (Blk W1 g7 69 #[.int .i64 0, .slice none 0 0]) := Lib.hid (by rw [hW1]; exact Blk.farr (Ne.symm hd57) (Blk.farr (Ne.symm hd57) B7.out))
    have C8 : Hid (Blk W1 g8 69 #[.int .i64 0, .slice none 0 0]) := Lib.hid (by rw [hW1]; exact Blk.farr (Ne.symm hd58) (Blk.farr (Ne.symm hd58) B8.out))
    have D1 : Hid (Below w2.heap.size w2 W1) := Lib.hid (by rw [hW1]; exact below_two ALL.out.below m5)
    rw [← hW1] at HH1 ⊢
    clear hW1 B5 B6 B7 B8 HH0
    obtain ⟨x0, x1, xf, xz⟩ := C6.out.b2
    have HH2 := Lib.hid (HS2.out W1 g6 (.int .i64 f.q.s) (.slice f.q.l.A f.q.l.l.length f.q.l.c) m6 HH1.out)
    refine wpAnyT_next (i := 13) (by kernel_rfl) rfl ?_
    go_wp2_with fail
    refine And.intro (by first | exact fun _ => HH2.out | exact HH2.out) ?_
    clear x0 x1 xf xz
    obtain ⟨W2, hW2⟩ : ∃ V, V = ((W1.setCell ⟨g6, 0, none⟩ (.int .i64 f.q.s)).setCell ⟨g6, 1, none⟩ (.slice f.q.l.A f.q.l.l.length f.q.l.c)) := ⟨_, rfl⟩
    have B5 : Hid (Blk W2 g5 69 #[.int .i64 f.p.s, .slice f.p.l.A f.p.l.l.length f.p.l.c]) := Lib.hid (by rw [hW2]; exact Blk.farr hd56 (Blk.farr hd56 C5.out))
    have B6 : Hid (Blk W2 g6 69 #[.int .i64 f.q.s, .slice f.q.l.A f.q.l.l.length f.q.l.c]) := Lib.hid (by rw [hW2]; exact (C6.out.set_ 0 _).set_ 1 _)
    have B7 : Hid (Blk W2 g7 69 #[.int .i64 0, .slice none 0 0]) := Lib.hid (by rw [hW2]; exact Blk.farr (Ne.symm hd67) (Blk.farr (Ne.symm hd67) C7.out))
    have B8 : Hid (Blk W2 g8 69 #[.int .i64 0, .slice none 0 0]) := Lib.hid (by rw [hW2]; exact Blk.farr (Ne.symm hd68) (Blk.farr (Ne.symm hd68) C8.out))
    have D2 : Hid (Below w2.heap.size w2 W2) := Lib.hid (by rw [hW2]; exact below_two D1.out m6)
    rw [← hW2] at HH2 ⊢
    clear hW2 C5 C6 C7 C8 HH1 D1
    obtain ⟨x0, x1, xf, xz⟩ := B7.out.b2
    have HH3 := Lib.hid (HS2.out W2 g7 (.int .i64 g.p.s) (.slice g.p.l.A g.p.l.l.length g.p.l.c) m7 HH2.out)
    refine wpAnyT_next (i := 14) (by kernel_rfl) rfl ?_
    go_wp2_with fail
    refine And.intro (by first | exact fun _ => HH3.out | exact HH3.out) ?_
    clear x0 x1 xf xz
    obtain ⟨W3, hW3⟩ : ∃ V, V = ((W2.setCell ⟨g7, 0, none⟩ (.int .i64 g.p.s)).setCell ⟨g7, 1, none⟩ (.slice g.p.l.A g.p.l.l.length g.p.l.c)) := ⟨_, rfl⟩
    have C5 : Hid (Blk W3 g5 69 #[.int .i64 f.p.s, .slice f.p.l.A f.p.l.l.length f.p.l.c]) := Lib.hid (by rw [hW3]; exact Blk.farr hd57 (Blk.farr hd57 B5.out))
    have C6 : Hid (Blk W3 g6 69 #[.int .i64 f.q.s, .slice f.q.l.A f.q.l.l.length f.q.l.c]) := Lib.hid (by rw [hW3]; exact Blk.farr hd67 (Blk.farr hd67 B6.out))
    have C7 : Hid (Blk W3 g7 69 #[.int .i64 g.p.s, .slice g.p.l.A g.p.l.l.length g.p.l.c]) := Lib.hid (by rw [hW3]; exact (B7.out.set_ 0 _).set_ 1 _)
    have C8 : Hid (Blk W3 g8 69 #[.int .i64 0, .slice none 0 0]) := Lib.hid (by rw [hW3]; exact Blk.farr (Ne.symm hd78) (Blk.farr (Ne.symm hd78) B8.out))
    have D3 : Hid (Below w2.heap.size w2 W3) := Lib.hid (by rw [hW3]; exact below_two D2.out m7)
    rw [← hW3] at HH3 ⊢
    clear hW3 B5 B6 B7 B8 HH2 D2
    obtain ⟨x0, x1, xf, xz⟩ := C8.out.b2
    refine wpAnyT_next (i := 15) (by kernel_rfl) rfl ?_
    go_wp2_with fail
    try simp only [QT]
    try (with_reducible refine And.intro (fun h => by simp at h) ?_)
    clear x0 x1 xf xz
    obtain ⟨W4, hW4⟩ : ∃ V, V = ((W3.setCell ⟨g8, 0, none⟩ (.int .i64 g.q.s)).setCell ⟨g8, 1, none⟩ (.slice g.q.l.A g.q.l.l.length g.q.l.c)) := ⟨_, rfl⟩
    have B5 : Hid (Blk W4 g5 69 #[.int .i64 f.p.s, .slice f.p.l.A f.p.l.l.length f.p.l.c]) := Lib.hid (by rw [hW4]; exact Blk.farr hd58 (Blk.farr hd58 C5.out))
    have B6 : Hid (Blk W4 g6 69 #[.int .i64 f.q.s, .slice f.q.l.A f.q.l.l.length f.q.l.c]) := Lib.hid (by rw [hW4]; exact Blk.farr hd68 (Blk.farr hd68 C6.out))
    have B7 : Hid (Blk W4 g7 69 #[.int .i64 g.p.s, .slice g.p.l.A g.p.l.l.length g.p.l.c]) := Lib.hid (by rw [hW4]; exact Blk.farr hd78 (Blk.farr hd78 C7.out))
    have B8 : Hid (Blk W4 g8 69 #[.int .i64 g.q.s, .slice g.q.l.A g.q.l.l.length g.q.l.c]) := Lib.hid (by rw [hW4]; exact (C8.out.set_ 0 _).set_ 1 _)
    have D4 : Hid (Below w2.heap.size w2 W4) := Lib.hid (by rw [hW4]; exact below_two D3.out m8)
    rw [← hW4]
    clear hW4 C5 C6 C7 C8 HH3 D3 HS2 HSS
    have HBW : Hid (Below w.heap.size w W4) := Lib.hid (HB2.out.trans (D4.out.mono HB2.out.size))
    have HCB : Hid (CB W4 g5 g6 g7 g8 f.p f.q g.p g.q) := Lib.hid ⟨B5.out, B6.out, B7.out, B8.out⟩
    have o5 : w.heap.size ≤ g5 := by omega
    have o6 : w.heap.size ≤ g6 := by omega
    have o7 : w.heap.size ≤ g7 := by omega
    have o8 : w.heap.size ≤ g8 := by omega
    have HX5 := Lib.hid (RX.old (n := 0) HF.out.P HBW.out o5 o6 o7 o8)
    have HX6 := Lib.hid (RX.old (n := 0) HF.out.Q HBW.out o5 o6 o7 o8)
    have HX7 := Lib.hid (RX.old (n := 0) HG.out.P HBW.out o5 o6 o7 o8)
    have HX8 := Lib.hid (RX.old (n := 0) HG.out.Q HBW.out o5 o6 o7 o8)
    have HQ0 := Lib.hid HF.out.ok.pos
    have HS0 := Lib.hid HG.out.ok.pos
    clear B5 B6 B7 B8 D4 m5 m6 m7 m8 ALL
    refine wpAnyT_done (by kernel_rfl) ?_ _
    go_wp2_with fail
    go_loopg [9] q.toNat (fun k z wr => ∃ (A B C D : Big) (p' q' r' s' sg : Int), z = .int .i64 sg ∧ (-1 ≤ sg ∧ sg ≤ 1) ∧ 0 < q' ∧ 0 < s' ∧ Hid (k = q'.toNat) ∧ Hid (CB wr g5 g6 g7 g8 A B C D) ∧ Hid (RX g5 g6 g7 g8 wr A p') ∧ Hid (RX g5 g6 g7 g8 wr B q') ∧ Hid (RX g5 g6 g7 g8 wr C r') ∧ Hid (RX g5 g6 g7 g8 wr D s') ∧ Hid (sg * cmpI p' q' r' s' = cmpI p q r s) ∧ Hid (Below w.heap.size w wr))
    case atStart => exact ⟨f.p, f.q, g.p, g.q, p, q, r, s, 1, rfl, by omega, HQ0.out, HS0.out, Lib.hid rfl, HCB, HX5, HX6, HX7, HX8, Lib.hid (Int.one_mul _), HBW⟩
    case round =>
      clear HCB HX5 HX6 HX7 HX8 HQ0 HS0 HBW HF HG
      obtain ⟨A, B, C, D, p', q', r', s', sg, rfl, hsg, hq', hs', HK, HCB, HX5, HX6, HX7, HX8, HRS, HBW⟩ := hrel
      obtain ⟨a0, a1, af, az⟩ := HCB.out.b5.b2
      obtain ⟨b0, b1, bf, bz⟩ := HCB.out.b6.b2
      have B_a := Lib.hid HCB.out.b5
      have B_b := Lib.hid HCB.out.b6
      have B_c := Lib.hid HCB.out.b7
      have B_d := Lib.hid HCB.out.b8
      have hz7 := B_c.out.lt
      have hz8 := B_d.out.lt
      go_wp2_with fail
      refine (big_Div A B p' q' _ HX5.out.rb HX6.out.rb hq').mono ?_
      rintro e w3 ⟨X, U, rfl, hXd, hUd, hXr, hUr, hb3⟩
      clear a0 a1 af b0 b1 bf
      have K_c : Blk _ (g7) 69 #[.int .i64 C.s, .slice C.l.A C.l.l.length C.l.c] := qkc B_c hb3
      obtain ⟨c0, c1, cf, cz⟩ := Blk.b2 K_c
      have B_c := Lib.hid K_c
      clear K_c
      have K_d : Blk _ (g8) 69 #[.int .i64 D.s, .slice D.l.A D.l.l.length D.l.c] := qkc B_d hb3
      obtain ⟨d0, d1, df, dz⟩ := Blk.b2 K_d
      have B_d := Lib.hid K_d
      clear K_d
      have K_a : Blk _ (g5) 69 #[.int .i64 A.s, .slice A.l.A A.l.l.length A.l.c] := qkc B_a hb3
      obtain ⟨a0, a1, af, az⟩ := Blk.b2 K_a
      have B_a := Lib.hid K_a
      clear K_a
      have K_b : Blk _ (g6) 69 #[.int .i64 B.s, .slice B.l.A B.l.l.length B.l.c] := qkc B_b hb3
      obtain ⟨b0, b1, bf, bz⟩ := Blk.b2 K_b
      have B_b := Lib.hid K_b
      clear K_b
      have i5 : g5 < w3.heap.size + 1 := by omega
      have i6 : g6 < w3.heap.size + 1 := by omega
      have i7 : g7 < w3.heap.size + 1 := by omega
      have i8 : g8 < w3.heap.size + 1 := by omega
      have HW3 : Hid (Below wr.heap.size wr w3) := Lib.hid hb3
      have HXX := Lib.hid (RB.mk' hXr.nwlt hXd (fits_div HX5.out.fits hq'))
      have HXU : Hid (RX g5 g6 g7 g8 w3 U (p' % q')) := Lib.hid (RX.new hUr hUd (fits_mod HX6.out.fits hq') (by assumption) (by assumption) (by assumption) (by assumption))
      clear hXd hUd hXr hUr hb3
      simp only [Big.v]
      go_wp2_with fail
      have HW3a : Hid (Below wr.heap.size wr ((w3.alloc (.cells #[.int .i64 X.s, .slice X.l.A X.l.l.length X.l.c] 69)).alloc (.cells #[.int .i64 U.s, .slice U.l.A U.l.l.length U.l.c] 69))) := Lib.hid (below_sa2 HW3.out HW3.out.size _ _)
      refine (big_Div C D r' s' _ (HX7.out.rb.later HW3a.out) (HX8.out.rb.later HW3a.out) hs').mono ?_
      rintro e w4 ⟨Y, V, rfl, hYd, hVd, hYr, hVr, hb4⟩
      have hz34 : w3.heap.size + 1 < w4.heap.size := by have := hb4.size; simp at this; omega
      have l3 : w3.heap.size < w3.heap.size + 1 := by omega
      have HW34 : Hid (Below w3.heap.size w3 w4) := Lib.hid (below_via hb4 (below_sa2 (Below.refl _ _) (Nat.le_refl _) _ _))
      clear a0 a1 af az b0 b1 bf bz c0 c1 cf cz d0 d1 df dz
      have K_a : Blk _ (g5) 69 #[.int .i64 A.s, .slice A.l.A A.l.l.length A.l.c] := blk_later hb4 (by simp [hp_past, hp_at, hp_other, hp_same, hp_drew, hp_drewN, B_a.out.eq, B_a.out.lt, hp_same B_a.out.eq, i5])
      obtain ⟨a0, a1, af, az⟩ := Blk.b2 K_a
      have B_a := Lib.hid K_a
      clear K_a
      have K_b : Blk _ (g6) 69 #[.int .i64 B.s, .slice B.l.A B.l.l.length B.l.c] := blk_later hb4 (by simp [hp_past, hp_at, hp_other, hp_same, hp_drew, hp_drewN, B_b.out.eq, B_b.out.lt, hp_same B_b.out.eq, i6])
      obtain ⟨b0, b1, bf, bz⟩ := Blk.b2 K_b
      have B_b := Lib.hid K_b
      clear K_b
      have K_c : Blk _ (g7) 69 #[.int .i64 C.s, .slice C.l.A C.l.l.length C.l.c] := blk_later hb4 (by simp [hp_past, hp_at, hp_other, hp_same, hp_drew, hp_drewN, B_c.out.eq, B_c.out.lt, hp_same B_c.out.eq, i7])
      obtain ⟨c0, c1, cf, cz⟩ := Blk.b2 K_c
      have B_c := Lib.hid K_c
      clear K_c
      have K_d : Blk _ (g8) 69 #[.int .i64 D.s, .slice D.l.A D.l.l.length D.l.c] := blk_later hb4 (by simp [hp_past, hp_at, hp_other, hp_same, hp_drew, hp_drewN, B_d.out.eq, B_d.out.lt, hp_same B_d.out.eq, i8])
      obtain ⟨d0, d1, df, dz⟩ := Blk.b2 K_d
      have B_d := Lib.hid K_d
      clear K_d
      have K_x : Blk _ (w3.heap.size) 69 #[.int .i64 X.s, .slice X.l.A X.l.l.length X.l.c] := blk_later hb4 (by simp [hp_past, hp_at, hp_other, hp_same, hp_drew, hp_drewN, l3])
      obtain ⟨x0, x1, xf, xz⟩ := Blk.b2 K_x
      have B_x := Lib.hid K_x
      clear K_x
      have K_u : Blk _ (w3.heap.size + 1) 69 #[.int .i64 U.s, .slice U.l.A U.l.l.length U.l.c] := blk_later hb4 (by simp [hp_past, hp_at, hp_other, hp_same, hp_drew, hp_drewN, l3])
      obtain ⟨u0, u1, uf, uz⟩ := Blk.b2 K_u
      have B_u := Lib.hid K_u
      clear K_u
      have j5 : g5 < w4.heap.size + 1 := by omega
      have j6 : g6 < w4.heap.size + 1 := by omega
      have j7 : g7 < w4.heap.size + 1 := by omega
      have j8 : g8 < w4.heap.size + 1 := by omega
      have jx : w3.heap.size < w4.heap.size + 1 := by omega
      have ju : w3.heap.size + 1 < w4.heap.size + 1 := by omega
      have jy : w3.heap.size < w4.heap.size := by omega
      have HYY := Lib.hid (RB.mk' hYr.nwlt hYd (fits_div HX7.out.fits hs'))
      have HVV : Hid (RX g5 g6 g7 g8 w4 V (r' % s')) := Lib.hid (RX.new hVr hVd (fits_mod HX8.out.fits hs') (by simp; omega) (by simp; omega) (by simp; omega) (by simp; omega))
      have HUU := Lib.hid (HXU.out.later HW34.out)
      have HXX4 := Lib.hid (HXX.out.later HW34.out)
      have HBW4 : Hid (Below w.heap.size w w4) := Lib.hid ((HBW.out.trans (HW3.out.mono HBW.out.size)).trans (HW34.out.mono (Nat.le_trans HBW.out.size HW3.out.size)))
      clear hYd hVd hYr hVr hb4 HXU HXX
      simp only [Big.v]
      go_wp2_with fail
      have HW4a : Hid (Below w4.heap.size w4 ((w4.alloc (.cells #[.int .i64 Y.s, .slice Y.l.A Y.l.l.length Y.l.c] 69)).alloc (.cells #[.int .i64 V.s, .slice V.l.A V.l.l.length V.l.c] 69))) := Lib.hid (below_sa2 (Below.refl _ _) (Nat.le_refl _) _ _)
      refine (big_cmp X Y (p' / q') (r' / s') _ (HXX4.out.later HW4a.out) (HYY.out.later HW4a.out)).mono ?_
      rintro e w5 ⟨rfl, hb5⟩
      have l4 : w4.heap.size < w4.heap.size + 1 := by omega
      have HW45 : Hid (Below w4.heap.size w4 w5) := Lib.hid (below_via hb5 HW4a.out)
      clear a0 a1 af az b0 b1 bf bz c0 c1 cf cz d0 d1 df dz x0 x1 xf xz u0 u1 uf uz
      have K_a : Blk _ (g5) 69 #[.int .i64 A.s, .slice A.l.A A.l.l.length A.l.c] := blk_later hb5 (by simp [hp_past, hp_at, hp_other, hp_same, hp_drew, hp_drewN, B_a.out.eq, B_a.out.lt, hp_same B_a.out.eq, j5])
      obtain ⟨a0, a1, af, az⟩ := Blk.b2 K_a
      have B_a := Lib.hid K_a
      clear K_a
      have K_b : Blk _ (g6) 69 #[.int .i64 B.s, .slice B.l.A B.l.l.length B.l.c] := blk_later hb5 (by simp [hp_past, hp_at, hp_other, hp_same, hp_drew, hp_drewN, B_b.out.eq, B_b.out.lt, hp_same B_b.out.eq, j6])
      obtain ⟨b0, b1, bf, bz⟩ := Blk.b2 K_b
      have B_b := Lib.hid K_b
      clear K_b
      have K_c : Blk _ (g7) 69 #[.int .i64 C.s, .slice C.l.A C.l.l.length C.l.c] := blk_later hb5 (by simp [hp_past, hp_at, hp_other, hp_same, hp_drew, hp_drewN, B_c.out.eq, B_c.out.lt, hp_same B_c.out.eq, j7])
      obtain ⟨c0, c1, cf, cz⟩ := Blk.b2 K_c
      have B_c := Lib.hid K_c
      clear K_c
      have K_d : Blk _ (g8) 69 #[.int .i64 D.s, .slice D.l.A D.l.l.length D.l.c] := blk_later hb5 (by simp [hp_past, hp_at, hp_other, hp_same, hp_drew, hp_drewN, B_d.out.eq, B_d.out.lt, hp_same B_d.out.eq, j8])
      obtain ⟨d0, d1, df, dz⟩ := Blk.b2 K_d
      have B_d := Lib.hid K_d
      clear K_d
      have K_u : Blk _ (w3.heap.size + 1) 69 #[.int .i64 U.s, .slice U.l.A U.l.l.length U.l.c] := blk_later hb5 (by simp [hp_past, hp_at, hp_other, hp_same, hp_drew, hp_drewN, B_u.out.eq, B_u.out.lt, hp_same B_u.out.eq, ju, jy])
      obtain ⟨u0, u1, uf, uz⟩ := Blk.b2 K_u
      have B_u := Lib.hid K_u
      clear K_u
      have K_v : Blk _ (w4.heap.size + 1) 69 #[.int .i64 V.s, .slice V.l.A V.l.l.length V.l.c] := blk_later hb5 (by simp [hp_past, hp_at, hp_other, hp_same, hp_drew, hp_drewN, l4])
      obtain ⟨v0, v1, vf, vz⟩ := Blk.b2 K_v
      have B_v := Lib.hid K_v
      clear K_v
      have HBW5 : Hid (Below w.heap.size w w5) := Lib.hid (HBW4.out.trans (HW45.out.mono HBW4.out.size))
      have HUU5 := Lib.hid (HUU.out.later HW45.out)
      have HVV5 := Lib.hid (HVV.out.later HW45.out)
      have HX6_5 := Lib.hid (((HX6.out.later HW3.out).later HW34.out).later HW45.out)
      have HX8_5 := Lib.hid (((HX8.out.later HW3.out).later HW34.out).later HW45.out)
      have hcr := ucmp_range (p' / q') (r' / s')
      have hcz : ucmp (p' / q') (r' / s') = 0 ↔ p' / q' = r' / s' := by
        constructor
        · intro h0
          rcases Int.lt_trichotomy (p' / q') (r' / s') with h1 | h1 | h1
          · rw [ucmp_lt h1] at h0; omega
          · exact h1
          · rw [ucmp_gt h1] at h0; omega
        · exact ucmp_eq
      have HNE := Lib.hid (cmpI_ne (p := p') (r := r') hq' hs')
      have HED := Lib.hid (cmpI_end (p := p') (r := r') hq' hs')
      have HGO := Lib.hid (cmpI_go (p := p') (r := r') hq' hs')
      generalize ucmp (p' / q') (r' / s') = cc at *
      clear hb5 HUU HVV HXX4 HYY
      by_cases hc : cc = 0
      · have HPQ := Lib.hid (hcz.1 hc)
        subst hc
        have husg := HUU5.out.s
        have hvsg := HVV5.out.s
        have hur := sign_range (p' % q')
        have hvr := sign_range (r' % s')
        rw [← husg] at hur
        rw [← hvsg] at hvr
        have HUS := Lib.hid husg
        have HVS := Lib.hid hvsg
        clear husg hvsg hcr hcz
        by_cases hz : U.s = 0 ∨ V.s = 0
        · have HFIN : Hid (sg * (U.s - V.s) = cmpI p q r s) := Lib.hid (by
            rw [← HRS.out, HED.out HPQ.out (by
              rcases hz with h1 | h1
              · left; rw [HUS.out] at h1; exact Int.sign_eq_zero_iff_zero.1 h1
              · right; rw [HVS.out] at h1; exact Int.sign_eq_zero_iff_zero.1 h1), HUS.out, HVS.out])
          clear HX5 HX6 HX7 HX8 HX6_5 HX8_5 HNE HED HGO HUU5 HVV5 HUS HVS B_u B_v
          generalize U.s = us at *
          generalize V.s = vs at *
          have hp1 : -2 ≤ sg * (us - vs) ∧ sg * (us - vs) ≤ 2 := by
            rcases (by omega : sg = -1 ∨ sg = 0 ∨ sg = 1) with h | h | h <;> subst h <;> omega
          have hwr := wr64 (z := sg * (us - vs)) (by omega) (by omega)
          have hws := wr64 (z := us - vs) (by omega) (by omega)
          by_cases hu0 : us = 0
          · subst hu0
            clear hz
            go_wp2_with fail
            go_ret
            refine ⟨ret_int ?_, HBW5.out⟩
            rw [← HFIN.out]
            first
              | exact hwr
              | (simp only [Int.zero_sub] at hwr ⊢; rw [← IntKind.wrap_i64]; exact hwr)
              | (simp only [Int.zero_sub] at hp1 ⊢; unfold wrap64; omega)
          · have hv0 : vs = 0 := hz.resolve_left hu0
            subst hv0
            clear hz
            go_wp2_with fail
            go_ret
            refine ⟨ret_int ?_, HBW5.out⟩
            rw [← HFIN.out]
            first
              | exact hwr
              | (simp only [Int.sub_zero] at hwr ⊢; rw [← IntKind.wrap_i64]; exact hwr)
              | (simp only [Int.sub_zero] at hp1 ⊢; unfold wrap64; omega)
        · have hu0 : ¬ U.s = 0 := fun h => hz (.inl h)
          have hv0 : ¬ V.s = 0 := fun h => hz (.inr h)
          have hup : 0 < p' % q' := by
            have h1 := Int.emod_nonneg p' (show q' ≠ 0 by omega)
            have h2 : p' % q' ≠ 0 := fun h => hu0 (by rw [HUS.out, h]; rfl)
            omega
          have hvp : 0 < r' % s' := by
            have h1 := Int.emod_nonneg r' (show s' ≠ 0 by omega)
            have h2 : r' % s' ≠ 0 := fun h => hv0 (by rw [HVS.out, h]; rfl)
            omega
          have hNX : (-sg) * cmpI q' (p' % q') s' (r' % s') = cmpI p q r s := by
            rw [← HRS.out, HGO.out HPQ.out (by omega), Int.neg_mul, Int.mul_neg]
          have HNX := Lib.hid hNX
          have HUP := Lib.hid (And.intro hup hvp)
          have hlt : (p' % q').toNat < q'.toNat := by have := Int.emod_lt_of_pos p' hq'; omega
          have HLT := Lib.hid hlt
          clear hz hup hvp hNX hlt hur hvr HNE HED HGO HUS HVS
          obtain ⟨us, ul⟩ := U
          obtain ⟨vs, vl⟩ := V
          simp only at hu0 hv0 u0 u1 v0 v1
          have hub : (us == 0) = false := by simpa using hu0
          have hvb : (vs == 0) = false := by simpa using hv0
          clear hu0 hv0
          go_wp2_with fail
          have KS0 : Hid (w5.drew.cell? ⟨w3.heap.size + 1, 0, none⟩ = some (.int .i64 us) ∧ w5.drew.cell? ⟨w3.heap.size + 1, 1, none⟩ = some (.slice ul.A ul.l.length ul.c) ∧ w5.drew.cell? ⟨g8, 0, none⟩ = some (.int .i64 D.s) ∧ w5.drew.cell? ⟨g8, 1, none⟩ = some (.slice D.l.A D.l.l.length D.l.c) ∧ w5.drew.cell? ⟨w4.heap.size + 1, 0, none⟩ = some (.int .i64 vs) ∧ w5.drew.cell? ⟨w4.heap.size + 1, 1, none⟩ = some (.slice vl.A vl.l.length vl.c)) := Lib.hid ⟨u0, u1, d0, d1, v0, v1⟩
          have ng5 : w.heap.size ≤ g5 ∧ w.heap.size ≤ g6 ∧ w.heap.size ≤ g7 ∧ w.heap.size ≤ g8 := ⟨o5, o6, o7, o8⟩
          have k5 : w3.heap.size + 1 ≠ g5 ∧ w4.heap.size + 1 ≠ g5 ∧ w3.heap.size + 1 ≠ g6 ∧ w4.heap.size + 1 ≠ g6 ∧ w3.heap.size + 1 ≠ g7 ∧ w4.heap.size + 1 ≠ g7 := by omega
          have HK5 := Lib.hid k5
          refine wp_region_T (fun W => W.cell? ⟨w3.heap.size + 1, 0, none⟩ = some (.int .i64 us) ∧ W.cell? ⟨w3.heap.size + 1, 1, none⟩ = some (.slice ul.A ul.l.length ul.c) ∧ W.cell? ⟨g8, 0, none⟩ = some (.int .i64 D.s) ∧ W.cell? ⟨g8, 1, none⟩ = some (.slice D.l.A D.l.l.length D.l.c) ∧ W.cell? ⟨w4.heap.size + 1, 0, none⟩ = some (.int .i64 vs) ∧ W.cell? ⟨w4.heap.size + 1, 1, none⟩ = some (.slice vl.A vl.l.length vl.c)) (fun i => 7 ≤ i) (by kernel_rfl) KS0.out (fun hHeld => ?_)
          refine qtq 1 ?_
          simp only [qsa, qsb, qsc]
          refine qtq 2 ?_
          simp only [qsa, qsb, qsc]
          refine qtq 3 ?_
          simp only [qsa, qsb, qsc]
          clear hHeld
          refine wpAnyT_next (i := 0) (by kernel_rfl) rfl ?_
          go_wp2_with fail
          refine And.intro (by first | exact fun _ => KS0.out | exact KS0.out) ?_
          have P5 : Hid (Blk w5.drew g5 69 #[.int .i64 A.s, .slice A.l.A A.l.l.length A.l.c]) := Lib.hid B_a.out.drew
          have P6 : Hid (Blk w5.drew g6 69 #[.int .i64 B.s, .slice B.l.A B.l.l.length B.l.c]) := Lib.hid B_b.out.drew
          have P7 : Hid (Blk w5.drew g7 69 #[.int .i64 C.s, .slice C.l.A C.l.l.length C.l.c]) := Lib.hid B_c.out.drew
          have P8 : Hid (Blk w5.drew g8 69 #[.int .i64 D.s, .slice D.l.A D.l.l.length D.l.c]) := Lib.hid B_d.out.drew
          have RB6P : Hid (RX g5 g6 g7 g8 w5.drew B q') := Lib.hid (HX6_5.out.later (Below.drew (Below.refl _ _)))
          have RUUP : Hid (RX g5 g6 g7 g8 w5.drew ⟨us, ul⟩ (p' % q')) := Lib.hid (HUU5.out.later (Below.drew (Below.refl _ _)))
          have RD8P : Hid (RX g5 g6 g7 g8 w5.drew D s') := Lib.hid (HX8_5.out.later (Below.drew (Below.refl _ _)))
          have RVVP : Hid (RX g5 g6 g7 g8 w5.drew ⟨vs, vl⟩ (r' % s')) := Lib.hid (HVV5.out.later (Below.drew (Below.refl _ _)))
          have WWP : Hid (Below w.heap.size w w5.drew) := Lib.hid (Below.drew HBW5.out)
          clear a0 a1 af az b0 b1 bf bz c0 c1 cf cz d0 d1 df dz u0 u1 uf uz v0 v1 vf vz
          obtain ⟨wd, hwd⟩ : ∃ x, x = w5.drew := ⟨_, rfl⟩
          rw [← hwd] at KS0 P5 P6 P7 P8 RB6P RUUP RD8P RVVP WWP ⊢
          clear hwd
          obtain ⟨z0, z1, zf, zz⟩ := P5.out.b2
          have KS5 := Lib.hid (six_keep (x := .int .i64 B.s) (y := .slice B.l.A B.l.l.length B.l.c) KS0.out HK5.out.1 (Ne.symm hd58) HK5.out.2.1)
          refine wpAnyT_next (i := 4) (by kernel_rfl) rfl ?_
          go_wp2_with fail
          refine And.intro (by first | exact fun _ => KS5.out | exact KS5.out) ?_
          obtain ⟨V5, hV5⟩ : ∃ V, V = ((wd.setCell ⟨g5, 0, none⟩ (.int .i64 B.s)).setCell ⟨g5, 1, none⟩ (.slice B.l.A B.l.l.length B.l.c)) := ⟨_, rfl⟩
          have Q55 : Hid (Blk V5 g5 69 #[.int .i64 B.s, .slice B.l.A B.l.l.length B.l.c]) := Lib.hid (by rw [hV5]; exact (P5.out.set_ 0 _).set_ 1 _)
          have Q56 : Hid (Blk V5 g6 69 #[.int .i64 B.s, .slice B.l.A B.l.l.length B.l.c]) := Lib.hid (by rw [hV5]; exact Blk.farr (Ne.symm hd56) (Blk.farr (Ne.symm hd56) P6.out))
          have Q57 : Hid (Blk V5 g7 69 #[.int .i64 C.s, .slice C.l.A C.l.l.length C.l.c]) := Lib.hid (by rw [hV5]; exact Blk.farr (Ne.symm hd57) (Blk.farr (Ne.symm hd57) P7.out))
          have Q58 : Hid (Blk V5 g8 69 #[.int .i64 D.s, .slice D.l.A D.l.l.length D.l.c]) := Lib.hid (by rw [hV5]; exact Blk.farr (Ne.symm hd58) (Blk.farr (Ne.symm hd58) P8.out))
          have RB6Q5 := Lib.hid (hV5 ▸ RB6P.out.st (u := .int .i64 B.s) (v := .slice B.l.A B.l.l.length B.l.c) (fun b hb => hb.1))
          have RUUQ5 := Lib.hid (hV5 ▸ RUUP.out.st (u := .int .i64 B.s) (v := .slice B.l.A B.l.l.length B.l.c) (fun b hb => hb.1))
          have RD8Q5 := Lib.hid (hV5 ▸ RD8P.out.st (u := .int .i64 B.s) (v := .slice B.l.A B.l.l.length B.l.c) (fun b hb => hb.1))
          have RVVQ5 := Lib.hid (hV5 ▸ RVVP.out.st (u := .int .i64 B.s) (v := .slice B.l.A B.l.l.length B.l.c) (fun b hb => hb.1))
          have WWQ5 : Hid (Below w.heap.size w V5) := Lib.hid (by rw [hV5]; exact below_two WWP.out (by omega))
          rw [← hV5] at KS5 ⊢
          clear hV5 P5 P6 P7 P8 RB6P RUUP RD8P RVVP WWP
          clear z0 z1 zf zz
          obtain ⟨z0, z1, zf, zz⟩ := Q56.out.b2
          have KS6 := Lib.hid (six_keep (x := .int .i64 us) (y := .slice ul.A ul.l.length ul.c) KS5.out HK5.out.2.2.1 (Ne.symm hd68) HK5.out.2.2.2.1)
          refine wpAnyT_next (i := 5) (by kernel_rfl) rfl ?_
          go_wp2_with fail
          refine And.intro (by first | exact fun _ => KS6.out | exact KS6.out) ?_
          obtain ⟨V6, hV6⟩ : ∃ V, V = ((V5.setCell ⟨g6, 0, none⟩ (.int .i64 us)).setCell ⟨g6, 1, none⟩ (.slice ul.A ul.l.length ul.c)) := ⟨_, rfl⟩
          have Q65 : Hid (Blk V6 g5 69 #[.int .i64 B.s, .slice B.l.A B.l.l.length B.l.c]) := Lib.hid (by rw [hV6]; exact Blk.farr (hd56) (Blk.farr (hd56) Q55.out))
          have Q66 : Hid (Blk V6 g6 69 #[.int .i64 us, .slice ul.A ul.l.length ul.c]) := Lib.hid (by rw [hV6]; exact (Q56.out.set_ 0 _).set_ 1 _)
          have Q67 : Hid (Blk V6 g7 69 #[.int .i64 C.s, .slice C.l.A C.l.l.length C.l.c]) := Lib.hid (by rw [hV6]; exact Blk.farr (Ne.symm hd67) (Blk.farr (Ne.symm hd67) Q57.out))
          have Q68 : Hid (Blk V6 g8 69 #[.int .i64 D.s, .slice D.l.A D.l.l.length D.l.c]) := Lib.hid (by rw [hV6]; exact Blk.farr (Ne.symm hd68) (Blk.farr (Ne.symm hd68) Q58.out))
          have RB6Q6 := Lib.hid (hV6 ▸ RB6Q5.out.st (u := .int .i64 us) (v := .slice ul.A ul.l.length ul.c) (fun b hb => hb.2.1))
          have RUUQ6 := Lib.hid (hV6 ▸ RUUQ5.out.st (u := .int .i64 us) (v := .slice ul.A ul.l.length ul.c) (fun b hb => hb.2.1))
          have RD8Q6 := Lib.hid (hV6 ▸ RD8Q5.out.st (u := .int .i64 us) (v := .slice ul.A ul.l.length ul.c) (fun b hb => hb.2.1))
          have RVVQ6 := Lib.hid (hV6 ▸ RVVQ5.out.st (u := .int .i64 us) (v := .slice ul.A ul.l.length ul.c) (fun b hb => hb.2.1))
          have WWQ6 : Hid (Below w.heap.size w V6) := Lib.hid (by rw [hV6]; exact below_two WWQ5.out (by omega))
          rw [← hV6] at KS6 ⊢
          clear hV6 Q55 Q56 Q57 Q58 RB6Q5 RUUQ5 RD8Q5 RVVQ5 WWQ5
          clear z0 z1 zf zz
          obtain ⟨z0, z1, zf, zz⟩ := Q67.out.b2
          have KS7 := Lib.hid (six_keep (x := .int .i64 D.s) (y := .slice D.l.A D.l.l.length D.l.c) KS6.out HK5.out.2.2.2.2.1 (Ne.symm hd78) HK5.out.2.2.2.2.2)
          refine wpAnyT_next (i := 6) (by kernel_rfl) rfl ?_
          go_wp2_with fail
          refine And.intro (by first | exact fun _ => KS7.out | exact KS7.out) ?_
          obtain ⟨V7, hV7⟩ : ∃ V, V = ((V6.setCell ⟨g7, 0, none⟩ (.int .i64 D.s)).setCell ⟨g7, 1, none⟩ (.slice D.l.A D.l.l.length D.l.c)) := ⟨_, rfl⟩
          have Q75 : Hid (Blk V7 g5 69 #[.int .i64 B.s, .slice B.l.A B.l.l.length B.l.c]) := Lib.hid (by rw [hV7]; exact Blk.farr (hd57) (Blk.farr (hd57) Q65.out))
          have Q76 : Hid (Blk V7 g6 69 #[.int .i64 us, .slice ul.A ul.l.length ul.c]) := Lib.hid (by rw [hV7]; exact Blk.farr (hd67) (Blk.farr (hd67) Q66.out))
          have Q77 : Hid (Blk V7 g7 69 #[.int .i64 D.s, .slice D.l.A D.l.l.length D.l.c]) := Lib.hid (by rw [hV7]; exact (Q67.out.set_ 0 _).set_ 1 _)
          have Q78 : Hid (Blk V7 g8 69 #[.int .i64 D.s, .slice D.l.A D.l.l.length D.l.c]) := Lib.hid (by rw [hV7]; exact Blk.farr (Ne.symm hd78) (Blk.farr (Ne.symm hd78) Q68.out))
          have RB6Q7 := Lib.hid (hV7 ▸ RB6Q6.out.st (u := .int .i64 D.s) (v := .slice D.l.A D.l.l.length D.l.c) (fun b hb => hb.2.2.1))
          have RUUQ7 := Lib.hid (hV7 ▸ RUUQ6.out.st (u := .int .i64 D.s) (v := .slice D.l.A D.l.l.length D.l.c) (fun b hb => hb.2.2.1))
          have RD8Q7 := Lib.hid (hV7 ▸ RD8Q6.out.st (u := .int .i64 D.s) (v := .slice D.l.A D.l.l.length D.l.c) (fun b hb => hb.2.2.1))
          have RVVQ7 := Lib.hid (hV7 ▸ RVVQ6.out.st (u := .int .i64 D.s) (v := .slice D.l.A D.l.l.length D.l.c) (fun b hb => hb.2.2.1))
          have WWQ7 : Hid (Below w.heap.size w V7) := Lib.hid (by rw [hV7]; exact below_two WWQ6.out (by omega))
          rw [← hV7] at KS7 ⊢
          clear hV7 Q65 Q66 Q67 Q68 RB6Q6 RUUQ6 RD8Q6 RVVQ6 WWQ6
          clear z0 z1 zf zz
          obtain ⟨z0, z1, zf, zz⟩ := Q78.out.b2
          refine wpAnyT_next (i := 7) (by kernel_rfl) rfl ?_
          go_wp2_with fail
          try simp only [QT]
          try (with_reducible refine And.intro (fun h => by simp at h) ?_)
          obtain ⟨V8, hV8⟩ : ∃ V, V = ((V7.setCell ⟨g8, 0, none⟩ (.int .i64 vs)).setCell ⟨g8, 1, none⟩ (.slice vl.A vl.l.length vl.c)) := ⟨_, rfl⟩
          have Q85 : Hid (Blk V8 g5 69 #[.int .i64 B.s, .slice B.l.A B.l.l.length B.l.c]) := Lib.hid (by rw [hV8]; exact Blk.farr (hd58) (Blk.farr (hd58) Q75.out))
          have Q86 : Hid (Blk V8 g6 69 #[.int .i64 us, .slice ul.A ul.l.length ul.c]) := Lib.hid (by rw [hV8]; exact Blk.farr (hd68) (Blk.farr (hd68) Q76.out))
          have Q87 : Hid (Blk V8 g7 69 #[.int .i64 D.s, .slice D.l.A D.l.l.length D.l.c]) := Lib.hid (by rw [hV8]; exact Blk.farr (hd78) (Blk.farr (hd78) Q77.out))
          have Q88 : Hid (Blk V8 g8 69 #[.int .i64 vs, .slice vl.A vl.l.length vl.c]) := Lib.hid (by rw [hV8]; exact (Q78.out.set_ 0 _).set_ 1 _)
          have RB6Q8 := Lib.hid (hV8 ▸ RB6Q7.out.st (u := .int .i64 vs) (v := .slice vl.A vl.l.length vl.c) (fun b hb => hb.2.2.2))
          have RUUQ8 := Lib.hid (hV8 ▸ RUUQ7.out.st (u := .int .i64 vs) (v := .slice vl.A vl.l.length vl.c) (fun b hb => hb.2.2.2))
          have RD8Q8 := Lib.hid (hV8 ▸ RD8Q7.out.st (u := .int .i64 vs) (v := .slice vl.A vl.l.length vl.c) (fun b hb => hb.2.2.2))
          have RVVQ8 := Lib.hid (hV8 ▸ RVVQ7.out.st (u := .int .i64 vs) (v := .slice vl.A vl.l.length vl.c) (fun b hb => hb.2.2.2))
          have WWQ8 : Hid (Below w.heap.size w V8) := Lib.hid (by rw [hV8]; exact below_two WWQ7.out (by omega))
          rw [← hV8]
          clear hV8 Q75 Q76 Q77 Q78 RB6Q7 RUUQ7 RD8Q7 RVVQ7 WWQ7
          clear z0 z1 zf zz
          refine wpAnyT_done (by kernel_rfl) ?_ _
          go_wp2_with fail
          go_roundg (p' % q').toNat
          case measure => rw [HK.out]; exact HLT.out
          case rel => exact ⟨B, ⟨us, ul⟩, D, ⟨vs, vl⟩, q', p' % q', s', r' % s', -sg, by first | rfl | (rw [wr64 (by omega) (by omega)]), by omega, HUP.out.1, HUP.out.2, Lib.hid rfl, Lib.hid ⟨Q85.out, Q86.out, Q87.out, Q88.out⟩, RB6Q8, RUUQ8, RD8Q8, RVVQ8, HNX, WWQ8⟩
      · have hfin : sg * cc = cmpI p q r s := by rw [← HRS.out, HNE.out (fun h => hc (hcz.2 h))]
        have hpr := mul_small hsg.1 hsg.2 hcr.1 hcr.2
        have hwr := wr64 (z := sg * cc) (by omega) (by omega)
        have HFIN := Lib.hid hfin
        clear hfin
        go_wp2_with fail
        go_ret
        exact ⟨ret_int (by first | exact HFIN.out | (rw [hwr]; exact HFIN.out)), HBW5.out⟩
end Go.Proofs.YtcgocdhhneckhaaGreat
