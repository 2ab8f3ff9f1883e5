/- Walk: rules of the laws (printed by tools/genrules.py). -/
import Derived.Test.YtcgocdhhneckhaaGreatFnammxbq
import Derived.Laws.CopyOwn
namespace Go.Proofs.YtcgocdhhneckhaaGreat
open Go.RowKit
def RulP (w w' : World) (e : Ending) : Prop := ∃ (A1 A2 A3 A4 A5 A6 : Option Addr) (c1 c2 c3 c4 c5 c6 : Nat), e = .returned (ruleB A1 A2 A3 A4 A5 A6 c1 c2 c3 c4 c5 c6).v ∧ Byl.At (· < w'.heap.size) w' (ruleB A1 A2 A3 A4 A5 A6 c1 c2 c3 c4 c5 c6) ∧ Below w.heap.size w w'
theorem PT.At.st {X : Nat → Prop} {w : World} {g i : Nat} {u : Value} {e : PT} (hg : X g) (h : PT.At (Nm X w) w e) : PT.At (Nm X (w.setCell ⟨g, i, none⟩ u)) (w.setCell ⟨g, i, none⟩ u) e :=
  h.keep (fun b hb => Below.heap_setCell w _ u b (fun e => hb.2 (by rw [e]; exact hg))) (fun b hb => ⟨by simpa using hb.1, hb.2⟩)
theorem pt_row {X : Nat → Prop} {w : World} {o n u : Int} {s : ByteArray} {cs : Array Value} {l : List PT} (hg : ∀ b, X b → b < w.heap.size) (hs : s.size ≤ 9223372036854775807) (hm : l.length ≤ maxLen) (hc : cs.toList = l.flatMap PT.enc) (hl : ∀ x, x ∈ l → PT.At (Nm X w) w x) :
    PT.At (Nm X (w.alloc (.cells cs 25))) (w.alloc (.cells cs 25)) ⟨o, n, u, s, some ⟨w.heap.size, 0, none⟩, l.length, l⟩ :=
  .mk hs (((Own.lit (base := w.heap.size) (e := 25) w cs l (Nat.le_refl _) hm hc PT.enc_k).rd PT.enc_k).mono (fun b hb => ⟨hb.2, fun e => by have := hg b e; have := hb.1; omega⟩)) (fun x hx => (hl x hx).more ((Below.refl _ _).alloc (Nat.le_refl _) _) (Mor.refl _ _ _))
set_option maxRecDepth 100000 in
set_option maxHeartbeats 6400000 in
theorem law_rules (w : World) : Calls Tryz.prog 27 #[] w fun e w' => RulP w w' e := by
  go_enter Tryz.func27, Tryz.ntmps27
  go_wp2_with fail
  have HB0 : Hid (Below w.heap.size w (w.alloc (.cells #[.string (⟨#[]⟩ : ByteArray), .slice none 0 0, .int .i64 0, .int .i64 0, .int .i64 0, .string (⟨#[]⟩ : ByteArray), .slice none 0 0, .int .i64 0, .int .i64 0, .int .i64 0, .string (⟨#[]⟩ : ByteArray), .slice none 0 0, .int .i64 0, .int .i64 0, .int .i64 0, .string (⟨#[]⟩ : ByteArray), .slice none 0 0, .int .i64 0, .int .i64 0, .int .i64 0, .string (⟨#[]⟩ : ByteArray), .slice none 0 0, .int .i64 0, .int .i64 0, .int .i64 0] 27))) := Lib.hid qbl
  have H00 : Hid (Blk (w.alloc (.cells #[.string (⟨#[]⟩ : ByteArray), .slice none 0 0, .int .i64 0, .int .i64 0, .int .i64 0, .string (⟨#[]⟩ : ByteArray), .slice none 0 0, .int .i64 0, .int .i64 0, .int .i64 0, .string (⟨#[]⟩ : ByteArray), .slice none 0 0, .int .i64 0, .int .i64 0, .int .i64 0, .string (⟨#[]⟩ : ByteArray), .slice none 0 0, .int .i64 0, .int .i64 0, .int .i64 0, .string (⟨#[]⟩ : ByteArray), .slice none 0 0, .int .i64 0, .int .i64 0, .int .i64 0] 27)) w.heap.size 27 #[.string (⟨#[]⟩ : ByteArray), .slice none 0 0, .int .i64 0, .int .i64 0, .int .i64 0, .string (⟨#[]⟩ : ByteArray), .slice none 0 0, .int .i64 0, .int .i64 0, .int .i64 0, .string (⟨#[]⟩ : ByteArray), .slice none 0 0, .int .i64 0, .int .i64 0, .int .i64 0, .string (⟨#[]⟩ : ByteArray), .slice none 0 0, .int .i64 0, .int .i64 0, .int .i64 0, .string (⟨#[]⟩ : ByteArray), .slice none 0 0, .int .i64 0, .int .i64 0, .int .i64 0]) := Lib.hid (Blk.new _ _ _)
  generalize w.alloc (.cells #[.string (⟨#[]⟩ : ByteArray), .slice none 0 0, .int .i64 0, .int .i64 0, .int .i64 0, .string (⟨#[]⟩ : ByteArray), .slice none 0 0, .int .i64 0, .int .i64 0, .int .i64 0, .string (⟨#[]⟩ : ByteArray), .slice none 0 0, .int .i64 0, .int .i64 0, .int .i64 0, .string (⟨#[]⟩ : ByteArray), .slice none 0 0, .int .i64 0, .int .i64 0, .int .i64 0, .string (⟨#[]⟩ : ByteArray), .slice none 0 0, .int .i64 0, .int .i64 0, .int .i64 0] 27) = w0 at *
  refine (law_num 50 1 _).mono ?_
  rintro e w1 ⟨rfl, hb1⟩
  have HB1 : Hid (Below w.heap.size w w1) := Lib.hid (HB0.out.trans (hb1.mono HB0.out.size))
  have H01 := Lib.hid (H00.out.later hb1)
  clear hb1 HB0 H00
  simp only [PT.v]
  go_wp2_with fail
  refine (law_num 200 1 _).mono ?_
  rintro e w2 ⟨rfl, hb2⟩
  have HB2 : Hid (Below w.heap.size w w2) := Lib.hid (HB1.out.trans (hb2.mono HB1.out.size))
  have H02 := Lib.hid (H01.out.later hb2)
  clear hb2 HB1 H01
  simp only [PT.v]
  go_wp2_with (refine wpList_store_row rfl 27 (.tmp 1) (.tmp 4) rfl w2.heap.size #[.string ⟨#[99, 111, 111, 112]⟩, .slice none 0 0, .int .i64 0, .int .i64 0, .int .i64 0, .string (⟨#[]⟩ : ByteArray), .slice none 0 0, .int .i64 0, .int .i64 0, .int .i64 0, .string (⟨#[]⟩ : ByteArray), .slice none 0 0, .int .i64 0, .int .i64 50, .int .i64 1, .string (⟨#[]⟩ : ByteArray), .slice none 0 0, .int .i64 0, .int .i64 200, .int .i64 1, .string (⟨#[]⟩ : ByteArray), .slice none 0 0, .int .i64 4, .int .i64 150, .int .i64 501] rfl rfl 27 #[.string (⟨#[]⟩ : ByteArray), .slice none 0 0, .int .i64 0, .int .i64 0, .int .i64 0, .string (⟨#[]⟩ : ByteArray), .slice none 0 0, .int .i64 0, .int .i64 0, .int .i64 0, .string (⟨#[]⟩ : ByteArray), .slice none 0 0, .int .i64 0, .int .i64 0, .int .i64 0, .string (⟨#[]⟩ : ByteArray), .slice none 0 0, .int .i64 0, .int .i64 0, .int .i64 0, .string (⟨#[]⟩ : ByteArray), .slice none 0 0, .int .i64 0, .int .i64 0, .int .i64 0] (Blk.new w2 _ _) (by kernel_rfl) rfl (by kernel_rfl) ?_; apply Hid.out)
  have H1x : Hid (Blk ((w2.alloc (.cells #[.string (⟨#[]⟩ : ByteArray), .slice none 0 0, .int .i64 0, .int .i64 0, .int .i64 0, .string (⟨#[]⟩ : ByteArray), .slice none 0 0, .int .i64 0, .int .i64 0, .int .i64 0, .string (⟨#[]⟩ : ByteArray), .slice none 0 0, .int .i64 0, .int .i64 0, .int .i64 0, .string (⟨#[]⟩ : ByteArray), .slice none 0 0, .int .i64 0, .int .i64 0, .int .i64 0, .string (⟨#[]⟩ : ByteArray), .slice none 0 0, .int .i64 0, .int .i64 0, .int .i64 0] 27)).setRow w2.heap.size #[.string ⟨#[99, 111, 111, 112]⟩, .slice none 0 0, .int .i64 0, .int .i64 0, .int .i64 0, .string (⟨#[]⟩ : ByteArray), .slice none 0 0, .int .i64 0, .int .i64 0, .int .i64 0, .string (⟨#[]⟩ : ByteArray), .slice none 0 0, .int .i64 0, .int .i64 50, .int .i64 1, .string (⟨#[]⟩ : ByteArray), .slice none 0 0, .int .i64 0, .int .i64 200, .int .i64 1, .string (⟨#[]⟩ : ByteArray), .slice none 0 0, .int .i64 4, .int .i64 150, .int .i64 501]) w2.heap.size 27 #[.string ⟨#[99, 111, 111, 112]⟩, .slice none 0 0, .int .i64 0, .int .i64 0, .int .i64 0, .string (⟨#[]⟩ : ByteArray), .slice none 0 0, .int .i64 0, .int .i64 0, .int .i64 0, .string (⟨#[]⟩ : ByteArray), .slice none 0 0, .int .i64 0, .int .i64 50, .int .i64 1, .string (⟨#[]⟩ : ByteArray), .slice none 0 0, .int .i64 0, .int .i64 200, .int .i64 1, .string (⟨#[]⟩ : ByteArray), .slice none 0 0, .int .i64 4, .int .i64 150, .int .i64 501]) := Lib.hid (setRow_heap _ _ #[.string (⟨#[]⟩ : ByteArray), .slice none 0 0, .int .i64 0, .int .i64 0, .int .i64 0, .string (⟨#[]⟩ : ByteArray), .slice none 0 0, .int .i64 0, .int .i64 0, .int .i64 0, .string (⟨#[]⟩ : ByteArray), .slice none 0 0, .int .i64 0, .int .i64 0, .int .i64 0, .string (⟨#[]⟩ : ByteArray), .slice none 0 0, .int .i64 0, .int .i64 0, .int .i64 0, .string (⟨#[]⟩ : ByteArray), .slice none 0 0, .int .i64 0, .int .i64 0, .int .i64 0] _ _ (0, 0) (Blk.new w2 _ _))
  have hne : w.heap.size ≠ w2.heap.size := Nat.ne_of_lt H02.out.lt
  have H0x : Hid (Blk ((w2.alloc (.cells #[.string (⟨#[]⟩ : ByteArray), .slice none 0 0, .int .i64 0, .int .i64 0, .int .i64 0, .string (⟨#[]⟩ : ByteArray), .slice none 0 0, .int .i64 0, .int .i64 0, .int .i64 0, .string (⟨#[]⟩ : ByteArray), .slice none 0 0, .int .i64 0, .int .i64 0, .int .i64 0, .string (⟨#[]⟩ : ByteArray), .slice none 0 0, .int .i64 0, .int .i64 0, .int .i64 0, .string (⟨#[]⟩ : ByteArray), .slice none 0 0, .int .i64 0, .int .i64 0, .int .i64 0] 27)).setRow w2.heap.size #[.string ⟨#[99, 111, 111, 112]⟩, .slice none 0 0, .int .i64 0, .int .i64 0, .int .i64 0, .string (⟨#[]⟩ : ByteArray), .slice none 0 0, .int .i64 0, .int .i64 0, .int .i64 0, .string (⟨#[]⟩ : ByteArray), .slice none 0 0, .int .i64 0, .int .i64 50, .int .i64 1, .string (⟨#[]⟩ : ByteArray), .slice none 0 0, .int .i64 0, .int .i64 200, .int .i64 1, .string (⟨#[]⟩ : ByteArray), .slice none 0 0, .int .i64 4, .int .i64 150, .int .i64 501]) w.heap.size 27 #[.string (⟨#[]⟩ : ByteArray), .slice none 0 0, .int .i64 0, .int .i64 0, .int .i64 0, .string (⟨#[]⟩ : ByteArray), .slice none 0 0, .int .i64 0, .int .i64 0, .int .i64 0, .string (⟨#[]⟩ : ByteArray), .slice none 0 0, .int .i64 0, .int .i64 0, .int .i64 0, .string (⟨#[]⟩ : ByteArray), .slice none 0 0, .int .i64 0, .int .i64 0, .int .i64 0, .string (⟨#[]⟩ : ByteArray), .slice none 0 0, .int .i64 0, .int .i64 0, .int .i64 0]) := Lib.hid ((setRow_other _ _ _ _ hne).trans (H02.out.alloc _))
  have HBx : Hid (Below w.heap.size w ((w2.alloc (.cells #[.string (⟨#[]⟩ : ByteArray), .slice none 0 0, .int .i64 0, .int .i64 0, .int .i64 0, .string (⟨#[]⟩ : ByteArray), .slice none 0 0, .int .i64 0, .int .i64 0, .int .i64 0, .string (⟨#[]⟩ : ByteArray), .slice none 0 0, .int .i64 0, .int .i64 0, .int .i64 0, .string (⟨#[]⟩ : ByteArray), .slice none 0 0, .int .i64 0, .int .i64 0, .int .i64 0, .string (⟨#[]⟩ : ByteArray), .slice none 0 0, .int .i64 0, .int .i64 0, .int .i64 0] 27)).setRow w2.heap.size #[.string ⟨#[99, 111, 111, 112]⟩, .slice none 0 0, .int .i64 0, .int .i64 0, .int .i64 0, .string (⟨#[]⟩ : ByteArray), .slice none 0 0, .int .i64 0, .int .i64 0, .int .i64 0, .string (⟨#[]⟩ : ByteArray), .slice none 0 0, .int .i64 0, .int .i64 50, .int .i64 1, .string (⟨#[]⟩ : ByteArray), .slice none 0 0, .int .i64 0, .int .i64 200, .int .i64 1, .string (⟨#[]⟩ : ByteArray), .slice none 0 0, .int .i64 4, .int .i64 150, .int .i64 501])) := Lib.hid (Go.below_setRow (HB2.out.alloc HB2.out.size _) HB2.out.size _)
  have hle1 : w.heap.size ≤ w2.heap.size := HB2.out.size
  clear HB2 H02
  generalize (w2.alloc (.cells #[.string (⟨#[]⟩ : ByteArray), .slice none 0 0, .int .i64 0, .int .i64 0, .int .i64 0, .string (⟨#[]⟩ : ByteArray), .slice none 0 0, .int .i64 0, .int .i64 0, .int .i64 0, .string (⟨#[]⟩ : ByteArray), .slice none 0 0, .int .i64 0, .int .i64 0, .int .i64 0, .string (⟨#[]⟩ : ByteArray), .slice none 0 0, .int .i64 0, .int .i64 0, .int .i64 0, .string (⟨#[]⟩ : ByteArray), .slice none 0 0, .int .i64 0, .int .i64 0, .int .i64 0] 27)).setRow w2.heap.size #[.string ⟨#[99, 111, 111, 112]⟩, .slice none 0 0, .int .i64 0, .int .i64 0, .int .i64 0, .string (⟨#[]⟩ : ByteArray), .slice none 0 0, .int .i64 0, .int .i64 0, .int .i64 0, .string (⟨#[]⟩ : ByteArray), .slice none 0 0, .int .i64 0, .int .i64 50, .int .i64 1, .string (⟨#[]⟩ : ByteArray), .slice none 0 0, .int .i64 0, .int .i64 200, .int .i64 1, .string (⟨#[]⟩ : ByteArray), .slice none 0 0, .int .i64 4, .int .i64 150, .int .i64 501] = wx at *
  generalize w2.heap.size = g1 at *
  obtain ⟨X, hX⟩ : ∃ X : Nat → Prop, X = fun b => b = w.heap.size ∨ b = g1 := ⟨_, rfl⟩
  have hXX : ∀ b, X b → b = w.heap.size ∨ b = g1 := fun b hb => by rw [hX] at hb; exact hb
  have hXg : X g1 := by rw [hX]; exact .inr rfl
  have hX0 : X w.heap.size := by rw [hX]; exact .inl rfl
  clear hX
  refine Lib.hid ?_
  go_wp2_with fail
  refine (law_num 2 0 _).mono ?_
  rintro e w3 ⟨rfl, hb3⟩
  have HB3 : Hid (Below w.heap.size w w3) := Lib.hid (HBx.out.trans (hb3.mono HBx.out.size))
  have H03 := Lib.hid (H0x.out.later hb3)
  have H13 := Lib.hid (H1x.out.later hb3)
  clear hb3 HBx H0x H1x
  have XA_3 : Hid (PT.At (Nm X w3) w3 ⟨0, 2, 0, (⟨#[]⟩ : ByteArray), none, 0, []⟩) := Lib.hid (pt_leaf _ _ _ _ _ _ (by decide))
  simp only [PT.v]
  go_wp2_with fail
  refine (law_of (⟨#[100, 105, 114, 101, 99, 116]⟩ : ByteArray) _).mono ?_
  rintro e w4 ⟨rfl, hb4⟩
  have HB4 : Hid (Below w.heap.size w w4) := Lib.hid (HB3.out.trans (hb4.mono HB3.out.size))
  have H04 := Lib.hid (H03.out.later hb4)
  have H14 := Lib.hid (H13.out.later hb4)
  have XA_4 := Lib.hid (XA_3.out.more hb4 (Mor.refl _ _ _))
  clear XA_3
  clear hb4 HB3 H03 H13
  have XB_4 : Hid (PT.At (Nm X w4) w4 ⟨2, 0, 0, (⟨#[100, 105, 114, 101, 99, 116]⟩ : ByteArray), none, 0, []⟩) := Lib.hid (pt_leaf _ _ _ _ _ _ (by decide))
  simp only [PT.v]
  go_wp2_with fail
  refine (law_two X 6 (PT.mk 0 2 0 (⟨#[]⟩ : ByteArray) none 0 []) (PT.mk 2 0 0 (⟨#[100, 105, 114, 101, 99, 116]⟩ : ByteArray) none 0 []) _ (fun b hb => by rcases hXX b hb with h | h <;> rw [h]; exact H04.out.lt; exact H14.out.lt) XA_4.out XB_4.out).mono ?_
  rintro e w5 ⟨gXC, cXC, rfl, at5, hb5⟩
  have HB5 : Hid (Below w.heap.size w w5) := Lib.hid (HB4.out.trans (hb5.mono HB4.out.size))
  have H05 := Lib.hid (H04.out.later hb5)
  have H15 := Lib.hid (H14.out.later hb5)
  have XA_5 := Lib.hid (XA_4.out.more hb5 (Mor.refl _ _ _))
  clear XA_4
  have XB_5 := Lib.hid (XB_4.out.more hb5 (Mor.refl _ _ _))
  clear XB_4
  clear hb5 HB4 H04 H14
  have XC_5 := Lib.hid at5
  clear at5
  simp only [PT.v, List.length_cons, List.length_nil, Nat.zero_add, Nat.reduceAdd]
  clear XA_5
  clear XB_5
  go_wp2_with fail
  refine (law_of (⟨#[114, 105, 100, 101]⟩ : ByteArray) _).mono ?_
  rintro e w6 ⟨rfl, hb6⟩
  have HB6 : Hid (Below w.heap.size w w6) := Lib.hid (HB5.out.trans (hb6.mono HB5.out.size))
  have H06 := Lib.hid (H05.out.later hb6)
  have H16 := Lib.hid (H15.out.later hb6)
  have XC_6 := Lib.hid (XC_5.out.more hb6 (Mor.refl _ _ _))
  clear XC_5
  clear hb6 HB5 H05 H15
  have XD_6 : Hid (PT.At (Nm X w6) w6 ⟨2, 0, 0, (⟨#[114, 105, 100, 101]⟩ : ByteArray), none, 0, []⟩) := Lib.hid (pt_leaf _ _ _ _ _ _ (by decide))
  simp only [PT.v]
  go_wp2_with fail
  refine (law_two X 10 (PT.mk 6 0 0 (⟨#[]⟩ : ByteArray) (some ⟨gXC, 0, none⟩) cXC [(PT.mk 0 2 0 (⟨#[]⟩ : ByteArray) none 0 []), (PT.mk 2 0 0 (⟨#[100, 105, 114, 101, 99, 116]⟩ : ByteArray) none 0 [])]) (PT.mk 2 0 0 (⟨#[114, 105, 100, 101]⟩ : ByteArray) none 0 []) _ (fun b hb => by rcases hXX b hb with h | h <;> rw [h]; exact H06.out.lt; exact H16.out.lt) XC_6.out XD_6.out).mono ?_
  rintro e w7 ⟨gXE, cXE, rfl, at7, hb7⟩
  have HB7 : Hid (Below w.heap.size w w7) := Lib.hid (HB6.out.trans (hb7.mono HB6.out.size))
  have H07 := Lib.hid (H06.out.later hb7)
  have H17 := Lib.hid (H16.out.later hb7)
  have XC_7 := Lib.hid (XC_6.out.more hb7 (Mor.refl _ _ _))
  clear XC_6
  have XD_7 := Lib.hid (XD_6.out.more hb7 (Mor.refl _ _ _))
  clear XD_6
  clear hb7 HB6 H06 H16
  have XE_7 := Lib.hid at7
  clear at7
  simp only [PT.v, List.length_cons, List.length_nil, Nat.zero_add, Nat.reduceAdd]
  clear XC_7
  clear XD_7
  obtain ⟨z0, z1, z2, z3, z4, z5, z6, z7, z8, z9, z10, z11, z12, z13, z14, z15, z16, z17, z18, z19, z20, z21, z22, z23, z24, zf, zz⟩ := H17.out.b25
  go_wp2_with fail
  have hsz : (((((w7.setCell ⟨g1, 2, none⟩ (.int .i64 12)).setCell ⟨g1, 3, none⟩ (.int .i64 0)).setCell ⟨g1, 4, none⟩ (.int .i64 0)).setCell ⟨g1, 5, none⟩ (.string (⟨#[]⟩ : ByteArray))).setCell ⟨g1, 6, none⟩ (.slice (some ⟨w7.heap.size, 0, none⟩) 1 1)).heap.size = w7.heap.size := by simp
  have XEs := Lib.hid (PT.At.st hXg (i := 6) (u := .slice (some ⟨w7.heap.size, 0, none⟩) 1 1) (PT.At.st hXg (i := 5) (u := .string (⟨#[]⟩ : ByteArray)) (PT.At.st hXg (i := 4) (u := .int .i64 0) (PT.At.st hXg (i := 3) (u := .int .i64 0) (PT.At.st hXg (i := 2) (u := .int .i64 12) XE_7.out)))))
  have hgl : ∀ b, X b → b < (((((w7.setCell ⟨g1, 2, none⟩ (.int .i64 12)).setCell ⟨g1, 3, none⟩ (.int .i64 0)).setCell ⟨g1, 4, none⟩ (.int .i64 0)).setCell ⟨g1, 5, none⟩ (.string (⟨#[]⟩ : ByteArray))).setCell ⟨g1, 6, none⟩ (.slice (some ⟨w7.heap.size, 0, none⟩) 1 1)).heap.size := fun b hb => by rw [hsz]; rcases hXX b hb with h | h <;> rw [h]; exact H07.out.lt; exact H17.out.lt
  have XFx := Lib.hid (pt_row (o := 12) (n := 0) (u := 0) (s := (⟨#[]⟩ : ByteArray)) (cs := #[.int .i64 10, .int .i64 0, .int .i64 0, .string (⟨#[]⟩ : ByteArray), .slice (some ⟨gXE, 0, none⟩) 2 cXE]) (l := [(PT.mk 10 0 0 (⟨#[]⟩ : ByteArray) (some ⟨gXE, 0, none⟩) cXE [(PT.mk 6 0 0 (⟨#[]⟩ : ByteArray) (some ⟨gXC, 0, none⟩) cXC [(PT.mk 0 2 0 (⟨#[]⟩ : ByteArray) none 0 []), (PT.mk 2 0 0 (⟨#[100, 105, 114, 101, 99, 116]⟩ : ByteArray) none 0 [])]), (PT.mk 2 0 0 (⟨#[114, 105, 100, 101]⟩ : ByteArray) none 0 [])])]) hgl (by decide) (by simp [maxLen]) rfl (fun x hx => by rw [List.mem_singleton.1 hx]; exact XEs.out))
  rw [hsz] at XFx
  simp only [List.length_cons, List.length_nil, Nat.zero_add] at XFx
  have HBy : Hid (Below w.heap.size w ((((((w7.setCell ⟨g1, 2, none⟩ (.int .i64 12)).setCell ⟨g1, 3, none⟩ (.int .i64 0)).setCell ⟨g1, 4, none⟩ (.int .i64 0)).setCell ⟨g1, 5, none⟩ (.string (⟨#[]⟩ : ByteArray))).setCell ⟨g1, 6, none⟩ (.slice (some ⟨w7.heap.size, 0, none⟩) 1 1)).alloc (.cells #[.int .i64 10, .int .i64 0, .int .i64 0, .string (⟨#[]⟩ : ByteArray), .slice (some ⟨gXE, 0, none⟩) 2 cXE] 25))) := Lib.hid ((((((HB7.out.setCell hle1 _).setCell hle1 _).setCell hle1 _).setCell hle1 _).setCell hle1 _).alloc (by rw [hsz]; exact HB7.out.size) _)
  have H0y : Hid (Blk ((((((w7.setCell ⟨g1, 2, none⟩ (.int .i64 12)).setCell ⟨g1, 3, none⟩ (.int .i64 0)).setCell ⟨g1, 4, none⟩ (.int .i64 0)).setCell ⟨g1, 5, none⟩ (.string (⟨#[]⟩ : ByteArray))).setCell ⟨g1, 6, none⟩ (.slice (some ⟨w7.heap.size, 0, none⟩) 1 1)).alloc (.cells #[.int .i64 10, .int .i64 0, .int .i64 0, .string (⟨#[]⟩ : ByteArray), .slice (some ⟨gXE, 0, none⟩) 2 cXE] 25)) w.heap.size 27 #[.string (⟨#[]⟩ : ByteArray), .slice none 0 0, .int .i64 0, .int .i64 0, .int .i64 0, .string (⟨#[]⟩ : ByteArray), .slice none 0 0, .int .i64 0, .int .i64 0, .int .i64 0, .string (⟨#[]⟩ : ByteArray), .slice none 0 0, .int .i64 0, .int .i64 0, .int .i64 0, .string (⟨#[]⟩ : ByteArray), .slice none 0 0, .int .i64 0, .int .i64 0, .int .i64 0, .string (⟨#[]⟩ : ByteArray), .slice none 0 0, .int .i64 0, .int .i64 0, .int .i64 0]) := Lib.hid ((((((H07.out.far hne _).far hne _).far hne _).far hne _).far hne _).alloc _)
  have H1y : Hid (Blk ((((((w7.setCell ⟨g1, 2, none⟩ (.int .i64 12)).setCell ⟨g1, 3, none⟩ (.int .i64 0)).setCell ⟨g1, 4, none⟩ (.int .i64 0)).setCell ⟨g1, 5, none⟩ (.string (⟨#[]⟩ : ByteArray))).setCell ⟨g1, 6, none⟩ (.slice (some ⟨w7.heap.size, 0, none⟩) 1 1)).alloc (.cells #[.int .i64 10, .int .i64 0, .int .i64 0, .string (⟨#[]⟩ : ByteArray), .slice (some ⟨gXE, 0, none⟩) 2 cXE] 25)) g1 27 #[.string ⟨#[99, 111, 111, 112]⟩, .slice none 0 0, .int .i64 12, .int .i64 0, .int .i64 0, .string (⟨#[]⟩ : ByteArray), .slice (some ⟨w7.heap.size, 0, none⟩) 1 1, .int .i64 0, .int .i64 0, .int .i64 0, .string (⟨#[]⟩ : ByteArray), .slice none 0 0, .int .i64 0, .int .i64 50, .int .i64 1, .string (⟨#[]⟩ : ByteArray), .slice none 0 0, .int .i64 0, .int .i64 200, .int .i64 1, .string (⟨#[]⟩ : ByteArray), .slice none 0 0, .int .i64 4, .int .i64 150, .int .i64 501]) := Lib.hid (Blk.alloc (by simpa using ((((H17.out.set_ 2 (.int .i64 12)).set_ 3 (.int .i64 0)).set_ 4 (.int .i64 0)).set_ 5 (.string (⟨#[]⟩ : ByteArray))).set_ 6 (.slice (some ⟨w7.heap.size, 0, none⟩) 1 1)) _)
  clear z0 z1 z2 z3 z4 z5 z6 z7 z8 z9 z10 z11 z12 z13 z14 z15 z16 z17 z18 z19 z20 z21 z22 z23 z24 zf zz
  clear XEs XE_7 HB7 H07 H17 hsz hgl
  generalize ((((((w7.setCell ⟨g1, 2, none⟩ (.int .i64 12)).setCell ⟨g1, 3, none⟩ (.int .i64 0)).setCell ⟨g1, 4, none⟩ (.int .i64 0)).setCell ⟨g1, 5, none⟩ (.string (⟨#[]⟩ : ByteArray))).setCell ⟨g1, 6, none⟩ (.slice (some ⟨w7.heap.size, 0, none⟩) 1 1)).alloc (.cells #[.int .i64 10, .int .i64 0, .int .i64 0, .string (⟨#[]⟩ : ByteArray), .slice (some ⟨gXE, 0, none⟩) 2 cXE] 25)) = wy at *
  generalize w7.heap.size = gXF at *
  go_wp2_with fail
  refine (law_num 100 1 _).mono ?_
  rintro e w8 ⟨rfl, hb8⟩
  have HB8 : Hid (Below w.heap.size w w8) := Lib.hid (HBy.out.trans (hb8.mono HBy.out.size))
  have H08 := Lib.hid (H0y.out.later hb8)
  have H18 := Lib.hid (H1y.out.later hb8)
  have XF_8 := Lib.hid (XFx.out.more hb8 (Mor.refl _ _ _))
  clear XFx
  clear hb8 HBy H0y H1y
  have XG_8 : Hid (PT.At (Nm X w8) w8 ⟨0, 100, 1, (⟨#[]⟩ : ByteArray), none, 0, []⟩) := Lib.hid (pt_leaf _ _ _ _ _ _ (by decide))
  simp only [PT.v]
  go_wp2_with fail
  refine (law_num 10 1 _).mono ?_
  rintro e w9 ⟨rfl, hb9⟩
  have HB9 : Hid (Below w.heap.size w w9) := Lib.hid (HB8.out.trans (hb9.mono HB8.out.size))
  have H09 := Lib.hid (H08.out.later hb9)
  have H19 := Lib.hid (H18.out.later hb9)
  have XF_9 := Lib.hid (XF_8.out.more hb9 (Mor.refl _ _ _))
  clear XF_8
  have XG_9 := Lib.hid (XG_8.out.more hb9 (Mor.refl _ _ _))
  clear XG_8
  clear hb9 HB8 H08 H18
  have XH_9 : Hid (PT.At (Nm X w9) w9 ⟨0, 10, 1, (⟨#[]⟩ : ByteArray), none, 0, []⟩) := Lib.hid (pt_leaf _ _ _ _ _ _ (by decide))
  simp only [PT.v]
  go_wp2_with fail
  refine (law_of (⟨#[100, 105, 114, 101, 99, 116]⟩ : ByteArray) _).mono ?_
  rintro e w10 ⟨rfl, hb10⟩
  have HB10 : Hid (Below w.heap.size w w10) := Lib.hid (HB9.out.trans (hb10.mono HB9.out.size))
  have H010 := Lib.hid (H09.out.later hb10)
  have H110 := Lib.hid (H19.out.later hb10)
  have XF_10 := Lib.hid (XF_9.out.more hb10 (Mor.refl _ _ _))
  clear XF_9
  have XG_10 := Lib.hid (XG_9.out.more hb10 (Mor.refl _ _ _))
  clear XG_9
  have XH_10 := Lib.hid (XH_9.out.more hb10 (Mor.refl _ _ _))
  clear XH_9
  clear hb10 HB9 H09 H19
  have XI_10 : Hid (PT.At (Nm X w10) w10 ⟨2, 0, 0, (⟨#[100, 105, 114, 101, 99, 116]⟩ : ByteArray), none, 0, []⟩) := Lib.hid (pt_leaf _ _ _ _ _ _ (by decide))
  simp only [PT.v]
  go_wp2_with fail
  refine (law_num 1 2 _).mono ?_
  rintro e w11 ⟨rfl, hb11⟩
  have HB11 : Hid (Below w.heap.size w w11) := Lib.hid (HB10.out.trans (hb11.mono HB10.out.size))
  have H011 := Lib.hid (H010.out.later hb11)
  have H111 := Lib.hid (H110.out.later hb11)
  have XF_11 := Lib.hid (XF_10.out.more hb11 (Mor.refl _ _ _))
  clear XF_10
  have XG_11 := Lib.hid (XG_10.out.more hb11 (Mor.refl _ _ _))
  clear XG_10
  have XH_11 := Lib.hid (XH_10.out.more hb11 (Mor.refl _ _ _))
  clear XH_10
  have XI_11 := Lib.hid (XI_10.out.more hb11 (Mor.refl _ _ _))
  clear XI_10
  clear hb11 HB10 H010 H110
  have XJ_11 : Hid (PT.At (Nm X w11) w11 ⟨0, 1, 2, (⟨#[]⟩ : ByteArray), none, 0, []⟩) := Lib.hid (pt_leaf _ _ _ _ _ _ (by decide))
  simp only [PT.v]
  go_wp2_with fail
  refine (law_two X 7 (PT.mk 2 0 0 (⟨#[100, 105, 114, 101, 99, 116]⟩ : ByteArray) none 0 []) (PT.mk 0 1 2 (⟨#[]⟩ : ByteArray) none 0 []) _ (fun b hb => by rcases hXX b hb with h | h <;> rw [h]; exact H011.out.lt; exact H111.out.lt) XI_11.out XJ_11.out).mono ?_
  rintro e w12 ⟨gXK, cXK, rfl, at12, hb12⟩
  have HB12 : Hid (Below w.heap.size w w12) := Lib.hid (HB11.out.trans (hb12.mono HB11.out.size))
  have H012 := Lib.hid (H011.out.later hb12)
  have H112 := Lib.hid (H111.out.later hb12)
  have XF_12 := Lib.hid (XF_11.out.more hb12 (Mor.refl _ _ _))
  clear XF_11
  have XG_12 := Lib.hid (XG_11.out.more hb12 (Mor.refl _ _ _))
  clear XG_11
  have XH_12 := Lib.hid (XH_11.out.more hb12 (Mor.refl _ _ _))
  clear XH_11
  have XI_12 := Lib.hid (XI_11.out.more hb12 (Mor.refl _ _ _))
  clear XI_11
  have XJ_12 := Lib.hid (XJ_11.out.more hb12 (Mor.refl _ _ _))
  clear XJ_11
  clear hb12 HB11 H011 H111
  have XK_12 := Lib.hid at12
  clear at12
  simp only [PT.v, List.length_cons, List.length_nil, Nat.zero_add, Nat.reduceAdd]
  clear XI_12
  clear XJ_12
  go_wp2_with fail
  refine (law_two X 6 (PT.mk 0 10 1 (⟨#[]⟩ : ByteArray) none 0 []) (PT.mk 7 0 0 (⟨#[]⟩ : ByteArray) (some ⟨gXK, 0, none⟩) cXK [(PT.mk 2 0 0 (⟨#[100, 105, 114, 101, 99, 116]⟩ : ByteArray) none 0 []), (PT.mk 0 1 2 (⟨#[]⟩ : ByteArray) none 0 [])]) _ (fun b hb => by rcases hXX b hb with h | h <;> rw [h]; exact H012.out.lt; exact H112.out.lt) XH_12.out XK_12.out).mono ?_
  rintro e w13 ⟨gXL, cXL, rfl, at13, hb13⟩
  have HB13 : Hid (Below w.heap.size w w13) := Lib.hid (HB12.out.trans (hb13.mono HB12.out.size))
  have H013 := Lib.hid (H012.out.later hb13)
  have H113 := Lib.hid (H112.out.later hb13)
  have XF_13 := Lib.hid (XF_12.out.more hb13 (Mor.refl _ _ _))
  clear XF_12
  have XG_13 := Lib.hid (XG_12.out.more hb13 (Mor.refl _ _ _))
  clear XG_12
  have XH_13 := Lib.hid (XH_12.out.more hb13 (Mor.refl _ _ _))
  clear XH_12
  have XK_13 := Lib.hid (XK_12.out.more hb13 (Mor.refl _ _ _))
  clear XK_12
  clear hb13 HB12 H012 H112
  have XL_13 := Lib.hid at13
  clear at13
  simp only [PT.v, List.length_cons, List.length_nil, Nat.zero_add, Nat.reduceAdd]
  clear XH_13
  clear XK_13
  go_wp2_with fail
  refine (law_two X 4 (PT.mk 0 100 1 (⟨#[]⟩ : ByteArray) none 0 []) (PT.mk 6 0 0 (⟨#[]⟩ : ByteArray) (some ⟨gXL, 0, none⟩) cXL [(PT.mk 0 10 1 (⟨#[]⟩ : ByteArray) none 0 []), (PT.mk 7 0 0 (⟨#[]⟩ : ByteArray) (some ⟨gXK, 0, none⟩) cXK [(PT.mk 2 0 0 (⟨#[100, 105, 114, 101, 99, 116]⟩ : ByteArray) none 0 []), (PT.mk 0 1 2 (⟨#[]⟩ : ByteArray) none 0 [])])]) _ (fun b hb => by rcases hXX b hb with h | h <;> rw [h]; exact H013.out.lt; exact H113.out.lt) XG_13.out XL_13.out).mono ?_
  rintro e w14 ⟨gXM, cXM, rfl, at14, hb14⟩
  have HB14 : Hid (Below w.heap.size w w14) := Lib.hid (HB13.out.trans (hb14.mono HB13.out.size))
  have H014 := Lib.hid (H013.out.later hb14)
  have H114 := Lib.hid (H113.out.later hb14)
  have XF_14 := Lib.hid (XF_13.out.more hb14 (Mor.refl _ _ _))
  clear XF_13
  have XG_14 := Lib.hid (XG_13.out.more hb14 (Mor.refl _ _ _))
  clear XG_13
  have XL_14 := Lib.hid (XL_13.out.more hb14 (Mor.refl _ _ _))
  clear XL_13
  clear hb14 HB13 H013 H113
  have XM_14 := Lib.hid at14
  clear at14
  simp only [PT.v, List.length_cons, List.length_nil, Nat.zero_add, Nat.reduceAdd]
  clear XG_14
  clear XL_14
  obtain ⟨z0, z1, z2, z3, z4, z5, z6, z7, z8, z9, z10, z11, z12, z13, z14, z15, z16, z17, z18, z19, z20, z21, z22, z23, z24, zf, zz⟩ := H114.out.b25
  clear z0 z1 z2 z3 z4 z5 z6 z12 z13 z14 z15 z16 z17 z18 z19 z20 z21 z22 z23 z24
  go_wp2_with (refine wpList_load_row rfl 27 (.tmp 1) rfl g1 rfl 27 #[.string ⟨#[99, 111, 111, 112]⟩, .slice none 0 0, .int .i64 12, .int .i64 0, .int .i64 0, .string (⟨#[]⟩ : ByteArray), .slice (some ⟨gXF, 0, none⟩) 1 1, .int .i64 4, .int .i64 0, .int .i64 0, .string (⟨#[]⟩ : ByteArray), .slice (some ⟨gXM, 0, none⟩) 2 cXM, .int .i64 0, .int .i64 50, .int .i64 1, .string (⟨#[]⟩ : ByteArray), .slice none 0 0, .int .i64 0, .int .i64 200, .int .i64 1, .string (⟨#[]⟩ : ByteArray), .slice none 0 0, .int .i64 4, .int .i64 150, .int .i64 501] (0, 0) _ (show Blk _ g1 27 #[.string ⟨#[99, 111, 111, 112]⟩, .slice none 0 0, .int .i64 12, .int .i64 0, .int .i64 0, .string (⟨#[]⟩ : ByteArray), .slice (some ⟨gXF, 0, none⟩) 1 1, .int .i64 4, .int .i64 0, .int .i64 0, .string (⟨#[]⟩ : ByteArray), .slice (some ⟨gXM, 0, none⟩) 2 cXM, .int .i64 0, .int .i64 50, .int .i64 1, .string (⟨#[]⟩ : ByteArray), .slice none 0 0, .int .i64 0, .int .i64 200, .int .i64 1, .string (⟨#[]⟩ : ByteArray), .slice none 0 0, .int .i64 4, .int .i64 150, .int .i64 501] from (by simpa using ((((H114.out.set_ 7 (.int .i64 4)).set_ 8 (.int .i64 0)).set_ 9 (.int .i64 0)).set_ 10 (.string (⟨#[]⟩ : ByteArray))).set_ 11 (.slice (some ⟨gXM, 0, none⟩) 2 cXM))) Tryz.underlying27 rfl (by kernel_rfl) ?_; apply Hid.out)
  have H1z : Hid (Blk (((((w14.setCell ⟨g1, 7, none⟩ (.int .i64 4)).setCell ⟨g1, 8, none⟩ (.int .i64 0)).setCell ⟨g1, 9, none⟩ (.int .i64 0)).setCell ⟨g1, 10, none⟩ (.string (⟨#[]⟩ : ByteArray))).setCell ⟨g1, 11, none⟩ (.slice (some ⟨gXM, 0, none⟩) 2 cXM)) g1 27 #[.string ⟨#[99, 111, 111, 112]⟩, .slice none 0 0, .int .i64 12, .int .i64 0, .int .i64 0, .string (⟨#[]⟩ : ByteArray), .slice (some ⟨gXF, 0, none⟩) 1 1, .int .i64 4, .int .i64 0, .int .i64 0, .string (⟨#[]⟩ : ByteArray), .slice (some ⟨gXM, 0, none⟩) 2 cXM, .int .i64 0, .int .i64 50, .int .i64 1, .string (⟨#[]⟩ : ByteArray), .slice none 0 0, .int .i64 0, .int .i64 200, .int .i64 1, .string (⟨#[]⟩ : ByteArray), .slice none 0 0, .int .i64 4, .int .i64 150, .int .i64 501]) := Lib.hid (by simpa using ((((H114.out.set_ 7 (.int .i64 4)).set_ 8 (.int .i64 0)).set_ 9 (.int .i64 0)).set_ 10 (.string (⟨#[]⟩ : ByteArray))).set_ 11 (.slice (some ⟨gXM, 0, none⟩) 2 cXM))
  have H0z : Hid (Blk (((((w14.setCell ⟨g1, 7, none⟩ (.int .i64 4)).setCell ⟨g1, 8, none⟩ (.int .i64 0)).setCell ⟨g1, 9, none⟩ (.int .i64 0)).setCell ⟨g1, 10, none⟩ (.string (⟨#[]⟩ : ByteArray))).setCell ⟨g1, 11, none⟩ (.slice (some ⟨gXM, 0, none⟩) 2 cXM)) w.heap.size 27 #[.string (⟨#[]⟩ : ByteArray), .slice none 0 0, .int .i64 0, .int .i64 0, .int .i64 0, .string (⟨#[]⟩ : ByteArray), .slice none 0 0, .int .i64 0, .int .i64 0, .int .i64 0, .string (⟨#[]⟩ : ByteArray), .slice none 0 0, .int .i64 0, .int .i64 0, .int .i64 0, .string (⟨#[]⟩ : ByteArray), .slice none 0 0, .int .i64 0, .int .i64 0, .int .i64 0, .string (⟨#[]⟩ : ByteArray), .slice none 0 0, .int .i64 0, .int .i64 0, .int .i64 0]) := Lib.hid (((((H014.out.far hne _).far hne _).far hne _).far hne _).far hne _)
  have HBz : Hid (Below w.heap.size w (((((w14.setCell ⟨g1, 7, none⟩ (.int .i64 4)).setCell ⟨g1, 8, none⟩ (.int .i64 0)).setCell ⟨g1, 9, none⟩ (.int .i64 0)).setCell ⟨g1, 10, none⟩ (.string (⟨#[]⟩ : ByteArray))).setCell ⟨g1, 11, none⟩ (.slice (some ⟨gXM, 0, none⟩) 2 cXM))) := Lib.hid (((((HB14.out.setCell hle1 _).setCell hle1 _).setCell hle1 _).setCell hle1 _).setCell hle1 _)
  have XFz := Lib.hid (PT.At.st hXg (i := 11) (u := .slice (some ⟨gXM, 0, none⟩) 2 cXM) (PT.At.st hXg (i := 10) (u := .string (⟨#[]⟩ : ByteArray)) (PT.At.st hXg (i := 9) (u := .int .i64 0) (PT.At.st hXg (i := 8) (u := .int .i64 0) (PT.At.st hXg (i := 7) (u := .int .i64 4) XF_14.out)))))
  have XMz := Lib.hid (PT.At.st hXg (i := 11) (u := .slice (some ⟨gXM, 0, none⟩) 2 cXM) (PT.At.st hXg (i := 10) (u := .string (⟨#[]⟩ : ByteArray)) (PT.At.st hXg (i := 9) (u := .int .i64 0) (PT.At.st hXg (i := 8) (u := .int .i64 0) (PT.At.st hXg (i := 7) (u := .int .i64 4) XM_14.out)))))
  clear z7 z8 z9 z10 z11 zf zz
  generalize (((((w14.setCell ⟨g1, 7, none⟩ (.int .i64 4)).setCell ⟨g1, 8, none⟩ (.int .i64 0)).setCell ⟨g1, 9, none⟩ (.int .i64 0)).setCell ⟨g1, 10, none⟩ (.string (⟨#[]⟩ : ByteArray))).setCell ⟨g1, 11, none⟩ (.slice (some ⟨gXM, 0, none⟩) 2 cXM)) = wz at *
  refine Lib.hid ?_
  go_wp2_with (refine wpList_store_row rfl 27 (.tmp 0) (.tmp 21) rfl w.heap.size #[.string ⟨#[99, 111, 111, 112]⟩, .slice none 0 0, .int .i64 12, .int .i64 0, .int .i64 0, .string (⟨#[]⟩ : ByteArray), .slice (some ⟨gXF, 0, none⟩) 1 1, .int .i64 4, .int .i64 0, .int .i64 0, .string (⟨#[]⟩ : ByteArray), .slice (some ⟨gXM, 0, none⟩) 2 cXM, .int .i64 0, .int .i64 50, .int .i64 1, .string (⟨#[]⟩ : ByteArray), .slice none 0 0, .int .i64 0, .int .i64 200, .int .i64 1, .string (⟨#[]⟩ : ByteArray), .slice none 0 0, .int .i64 4, .int .i64 150, .int .i64 501] rfl rfl 27 #[.string (⟨#[]⟩ : ByteArray), .slice none 0 0, .int .i64 0, .int .i64 0, .int .i64 0, .string (⟨#[]⟩ : ByteArray), .slice none 0 0, .int .i64 0, .int .i64 0, .int .i64 0, .string (⟨#[]⟩ : ByteArray), .slice none 0 0, .int .i64 0, .int .i64 0, .int .i64 0, .string (⟨#[]⟩ : ByteArray), .slice none 0 0, .int .i64 0, .int .i64 0, .int .i64 0, .string (⟨#[]⟩ : ByteArray), .slice none 0 0, .int .i64 0, .int .i64 0, .int .i64 0] H0z.out (by kernel_rfl) rfl (by kernel_rfl) ?_; apply Hid.out)
  have H0e : Hid (Blk (wz.setRow w.heap.size #[.string ⟨#[99, 111, 111, 112]⟩, .slice none 0 0, .int .i64 12, .int .i64 0, .int .i64 0, .string (⟨#[]⟩ : ByteArray), .slice (some ⟨gXF, 0, none⟩) 1 1, .int .i64 4, .int .i64 0, .int .i64 0, .string (⟨#[]⟩ : ByteArray), .slice (some ⟨gXM, 0, none⟩) 2 cXM, .int .i64 0, .int .i64 50, .int .i64 1, .string (⟨#[]⟩ : ByteArray), .slice none 0 0, .int .i64 0, .int .i64 200, .int .i64 1, .string (⟨#[]⟩ : ByteArray), .slice none 0 0, .int .i64 4, .int .i64 150, .int .i64 501]) w.heap.size 27 #[.string ⟨#[99, 111, 111, 112]⟩, .slice none 0 0, .int .i64 12, .int .i64 0, .int .i64 0, .string (⟨#[]⟩ : ByteArray), .slice (some ⟨gXF, 0, none⟩) 1 1, .int .i64 4, .int .i64 0, .int .i64 0, .string (⟨#[]⟩ : ByteArray), .slice (some ⟨gXM, 0, none⟩) 2 cXM, .int .i64 0, .int .i64 50, .int .i64 1, .string (⟨#[]⟩ : ByteArray), .slice none 0 0, .int .i64 0, .int .i64 200, .int .i64 1, .string (⟨#[]⟩ : ByteArray), .slice none 0 0, .int .i64 4, .int .i64 150, .int .i64 501]) := Lib.hid (setRow_heap _ _ #[.string (⟨#[]⟩ : ByteArray), .slice none 0 0, .int .i64 0, .int .i64 0, .int .i64 0, .string (⟨#[]⟩ : ByteArray), .slice none 0 0, .int .i64 0, .int .i64 0, .int .i64 0, .string (⟨#[]⟩ : ByteArray), .slice none 0 0, .int .i64 0, .int .i64 0, .int .i64 0, .string (⟨#[]⟩ : ByteArray), .slice none 0 0, .int .i64 0, .int .i64 0, .int .i64 0, .string (⟨#[]⟩ : ByteArray), .slice none 0 0, .int .i64 0, .int .i64 0, .int .i64 0] _ _ (0, 0) H0z.out)
  have HBe : Hid (Below w.heap.size w (wz.setRow w.heap.size #[.string ⟨#[99, 111, 111, 112]⟩, .slice none 0 0, .int .i64 12, .int .i64 0, .int .i64 0, .string (⟨#[]⟩ : ByteArray), .slice (some ⟨gXF, 0, none⟩) 1 1, .int .i64 4, .int .i64 0, .int .i64 0, .string (⟨#[]⟩ : ByteArray), .slice (some ⟨gXM, 0, none⟩) 2 cXM, .int .i64 0, .int .i64 50, .int .i64 1, .string (⟨#[]⟩ : ByteArray), .slice none 0 0, .int .i64 0, .int .i64 200, .int .i64 1, .string (⟨#[]⟩ : ByteArray), .slice none 0 0, .int .i64 4, .int .i64 150, .int .i64 501])) := Lib.hid (Go.below_setRow HBz.out (Nat.le_refl _) _)
  have XFe : Hid (PT.At (· < (wz.setRow w.heap.size #[.string ⟨#[99, 111, 111, 112]⟩, .slice none 0 0, .int .i64 12, .int .i64 0, .int .i64 0, .string (⟨#[]⟩ : ByteArray), .slice (some ⟨gXF, 0, none⟩) 1 1, .int .i64 4, .int .i64 0, .int .i64 0, .string (⟨#[]⟩ : ByteArray), .slice (some ⟨gXM, 0, none⟩) 2 cXM, .int .i64 0, .int .i64 50, .int .i64 1, .string (⟨#[]⟩ : ByteArray), .slice none 0 0, .int .i64 0, .int .i64 200, .int .i64 1, .string (⟨#[]⟩ : ByteArray), .slice none 0 0, .int .i64 4, .int .i64 150, .int .i64 501]).heap.size) (wz.setRow w.heap.size #[.string ⟨#[99, 111, 111, 112]⟩, .slice none 0 0, .int .i64 12, .int .i64 0, .int .i64 0, .string (⟨#[]⟩ : ByteArray), .slice (some ⟨gXF, 0, none⟩) 1 1, .int .i64 4, .int .i64 0, .int .i64 0, .string (⟨#[]⟩ : ByteArray), .slice (some ⟨gXM, 0, none⟩) 2 cXM, .int .i64 0, .int .i64 50, .int .i64 1, .string (⟨#[]⟩ : ByteArray), .slice none 0 0, .int .i64 0, .int .i64 200, .int .i64 1, .string (⟨#[]⟩ : ByteArray), .slice none 0 0, .int .i64 4, .int .i64 150, .int .i64 501]) (PT.mk 12 0 0 (⟨#[]⟩ : ByteArray) (some ⟨gXF, 0, none⟩) 1 [(PT.mk 10 0 0 (⟨#[]⟩ : ByteArray) (some ⟨gXE, 0, none⟩) cXE [(PT.mk 6 0 0 (⟨#[]⟩ : ByteArray) (some ⟨gXC, 0, none⟩) cXC [(PT.mk 0 2 0 (⟨#[]⟩ : ByteArray) none 0 []), (PT.mk 2 0 0 (⟨#[100, 105, 114, 101, 99, 116]⟩ : ByteArray) none 0 [])]), (PT.mk 2 0 0 (⟨#[114, 105, 100, 101]⟩ : ByteArray) none 0 [])])])) := Lib.hid (XFz.out.keep (fun b hb => setRow_other _ _ _ _ (fun e => hb.2 (by rw [e]; exact hX0))) (fun b hb => by simpa using hb.1))
  have XMe : Hid (PT.At (· < (wz.setRow w.heap.size #[.string ⟨#[99, 111, 111, 112]⟩, .slice none 0 0, .int .i64 12, .int .i64 0, .int .i64 0, .string (⟨#[]⟩ : ByteArray), .slice (some ⟨gXF, 0, none⟩) 1 1, .int .i64 4, .int .i64 0, .int .i64 0, .string (⟨#[]⟩ : ByteArray), .slice (some ⟨gXM, 0, none⟩) 2 cXM, .int .i64 0, .int .i64 50, .int .i64 1, .string (⟨#[]⟩ : ByteArray), .slice none 0 0, .int .i64 0, .int .i64 200, .int .i64 1, .string (⟨#[]⟩ : ByteArray), .slice none 0 0, .int .i64 4, .int .i64 150, .int .i64 501]).heap.size) (wz.setRow w.heap.size #[.string ⟨#[99, 111, 111, 112]⟩, .slice none 0 0, .int .i64 12, .int .i64 0, .int .i64 0, .string (⟨#[]⟩ : ByteArray), .slice (some ⟨gXF, 0, none⟩) 1 1, .int .i64 4, .int .i64 0, .int .i64 0, .string (⟨#[]⟩ : ByteArray), .slice (some ⟨gXM, 0, none⟩) 2 cXM, .int .i64 0, .int .i64 50, .int .i64 1, .string (⟨#[]⟩ : ByteArray), .slice none 0 0, .int .i64 0, .int .i64 200, .int .i64 1, .string (⟨#[]⟩ : ByteArray), .slice none 0 0, .int .i64 4, .int .i64 150, .int .i64 501]) (PT.mk 4 0 0 (⟨#[]⟩ : ByteArray) (some ⟨gXM, 0, none⟩) cXM [(PT.mk 0 100 1 (⟨#[]⟩ : ByteArray) none 0 []), (PT.mk 6 0 0 (⟨#[]⟩ : ByteArray) (some ⟨gXL, 0, none⟩) cXL [(PT.mk 0 10 1 (⟨#[]⟩ : ByteArray) none 0 []), (PT.mk 7 0 0 (⟨#[]⟩ : ByteArray) (some ⟨gXK, 0, none⟩) cXK [(PT.mk 2 0 0 (⟨#[100, 105, 114, 101, 99, 116]⟩ : ByteArray) none 0 []), (PT.mk 0 1 2 (⟨#[]⟩ : ByteArray) none 0 [])])])])) := Lib.hid (XMz.out.keep (fun b hb => setRow_other _ _ _ _ (fun e => hb.2 (by rw [e]; exact hX0))) (fun b hb => by simpa using hb.1))
  generalize wz.setRow w.heap.size #[.string ⟨#[99, 111, 111, 112]⟩, .slice none 0 0, .int .i64 12, .int .i64 0, .int .i64 0, .string (⟨#[]⟩ : ByteArray), .slice (some ⟨gXF, 0, none⟩) 1 1, .int .i64 4, .int .i64 0, .int .i64 0, .string (⟨#[]⟩ : ByteArray), .slice (some ⟨gXM, 0, none⟩) 2 cXM, .int .i64 0, .int .i64 50, .int .i64 1, .string (⟨#[]⟩ : ByteArray), .slice none 0 0, .int .i64 0, .int .i64 200, .int .i64 1, .string (⟨#[]⟩ : ByteArray), .slice none 0 0, .int .i64 4, .int .i64 150, .int .i64 501] = we at *
  refine Lib.hid ?_
  go_wp2_with fail
  refine bodyPost_ret (results_cell_row rfl _ _ w.heap.size 27 #[.string ⟨#[99, 111, 111, 112]⟩, .slice none 0 0, .int .i64 12, .int .i64 0, .int .i64 0, .string (⟨#[]⟩ : ByteArray), .slice (some ⟨gXF, 0, none⟩) 1 1, .int .i64 4, .int .i64 0, .int .i64 0, .string (⟨#[]⟩ : ByteArray), .slice (some ⟨gXM, 0, none⟩) 2 cXM, .int .i64 0, .int .i64 50, .int .i64 1, .string (⟨#[]⟩ : ByteArray), .slice none 0 0, .int .i64 0, .int .i64 200, .int .i64 1, .string (⟨#[]⟩ : ByteArray), .slice none 0 0, .int .i64 4, .int .i64 150, .int .i64 501] (0, 0) _ rfl H0e.out Tryz.underlying27 rfl (by kernel_rfl)) rfl ?_
  exact ⟨_, _, _, _, _, _, _, _, _, _, _, _, rfl, ⟨(by show ByteArray.size ⟨#[99, 111, 111, 112]⟩ ≤ _; decide), ⟨Rd.nil _ _ _ _, fun x hx => by cases hx⟩, XFe.out, XMe.out, pt_leaf _ _ _ _ _ _ (by decide), pt_leaf _ _ _ _ _ _ (by decide)⟩, HBe.out⟩
end Go.Proofs.YtcgocdhhneckhaaGreat
