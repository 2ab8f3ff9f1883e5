/- Walks of the limits: nodes, FewExp, Few. -/
import Derived.Test.YtcgocdhhneckhaaGreatFnammxbm
import Derived.Test.YtcgocdhhneckhaaGreatFnammxbo
namespace Go.Proofs.YtcgocdhhneckhaaGreat
open Go.RowKit
def AnyP (w w' : World) (r : Ending) : Prop := ∃ t, r = .returned (.bool t) ∧ Below w.heap.size w w'
def NodP (w w' : World) (m : Int) (r : Ending) : Prop := ∃ k : Int, r = .returned (.int .i64 k) ∧ 1 ≤ k ∧ k ≤ m + 1 ∧ Below w.heap.size w w'
def NodIH (d : Nat) : Prop := ∀ (e : PT) (m : Int) (W : World), 0 ≤ m → m ≤ 60 → PT.At (· < W.heap.size) W e → Calls Tryz.prog 64 #[e.v, .int .i64 m, .int .i64 d] W fun r w' => NodP W w' m r
set_option maxHeartbeats 800000 in
theorem nodes_deep : NodIH 0 := by
  rintro ⟨o, a, u, s, A, c, l⟩ m w h0 h1 he
  simp only [PT.v]
  go_enter Tryz.func64, Tryz.ntmps64
  go_wp2_with fail
  go_ret
  exact ⟨m + 1, rfl, by omega, by omega, qbl⟩
set_option maxRecDepth 100000 in
set_option maxHeartbeats 1600000 in
theorem nodes_more (d : Nat) (hd : d ≤ 15) (ih : NodIH d) : NodIH (d + 1) := by
  rintro ⟨o, a, u, s, A, c, l⟩ m w h0 h1 he
  have HE := Lib.hid he
  have hsz := he.str
  have hln := he.rd.len
  simp only [PT.s, PT.a] at hsz hln
  clear he
  simp only [PT.v]
  have hd0 : ((d + 1 : Nat) : Int) = (d : Int) + 1 := by omega
  rw [hd0]
  clear hd0
  by_cases hs : (40 : Int) < (s.size : Int)
  · go_enter Tryz.func64, Tryz.ntmps64
    go_wp2_with fail
    go_ret
    exact ⟨m + 1, rfl, by omega, by omega, qbl⟩
  · go_enter Tryz.func64, Tryz.ntmps64
    go_wp2_with fail
    have HB1 : Hid (Below w.heap.size w (w.alloc (.cells #[.int .i64 o, .int .i64 a, .int .i64 u, .string s, .slice A l.length c] 25))) := Lib.hid qbl
    have HX1 : Hid (Blk (w.alloc (.cells #[.int .i64 o, .int .i64 a, .int .i64 u, .string s, .slice A l.length c] 25)) w.heap.size 25 #[.int .i64 o, .int .i64 a, .int .i64 u, .string s, .slice A l.length c]) := Lib.hid (Blk.new _ _ _)
    generalize w.alloc (.cells #[.int .i64 o, .int .i64 a, .int .i64 u, .string s, .slice A l.length c] 25) = w1 at *
    go_loopw [7, 8] (fun n i wr => ∃ (j : Nat) (k : Int), j ≤ l.length ∧ i = .int .i64 j ∧ n = .int .i64 k ∧ 1 ≤ k ∧ k ≤ m + 1 ∧ Below w1.heap.size w1 wr) (fun _ i _ => l.length - (intOf i).toNat)
    case atStart => exact ⟨0, 1, by omega, rfl, rfl, by omega, by omega, Below.refl _ _⟩
    case round =>
      obtain ⟨j, k, hj, rfl, rfl, hk0, hk1, hbel⟩ := hrel
      have HBR : Hid (Below w.heap.size w wr) := Lib.hid (HB1.out.trans (hbel.mono HB1.out.size))
      have HXR := Lib.hid (HX1.out.later hbel)
      obtain ⟨a0, a1, a2, a3, a4, af, az⟩ := HXR.out.b5
      by_cases hlt : j < l.length
      · by_cases hkm : k ≤ m
        · have hEW := HE.out.later HBR.out
          obtain ⟨b, q, hA, hbl, hcl⟩ := hEW.rd.at1 hlt
          have HX := Lib.hid (hEW.all _ (List.getElem_mem hlt))
          simp only [PT.a] at hA hcl HX
          clear hEW
          generalize l[j] = x at *
          obtain ⟨xo, xm, xu, xs, xA, xc, xl⟩ := x
          obtain ⟨g0, g1, g2, g3, g4⟩ := Cells.c5 hcl
          clear hcl
          subst hA
          have hcall := ih ⟨xo, xm, xu, xs, xA, xc, xl⟩ (m - k) wr (by omega) (by omega) HX.out
          simp only [PT.v] at hcall
          go_wp2_with fail
          refine hcall.mono ?_
          clear hcall
          rintro e w2 ⟨k2, rfl, hk20, hk21, hb2⟩
          have HB2 : Hid (Below w1.heap.size w1 w2) := Lib.hid (hbel.trans (hb2.mono hbel.size))
          clear hb2 g0 g1 g2 g3 g4 a0 a1 a2 a3 a4 af az
          go_wp2_with fail
          go_roundw
          case rel => exact ⟨j + 1, k + k2, by omega, by go_num, rfl, by omega, by omega, HB2.out⟩
          case measure => simp [intOf]; omega
        · go_wp2_with fail
          go_ret
          exact ⟨k, rfl, hk0, hk1, HBR.out⟩
      · go_wp2_with fail
        go_ret
        exact ⟨k, rfl, hk0, hk1, HBR.out⟩
theorem nodes_any : ∀ d : Nat, d ≤ 16 → NodIH d
  | 0, _ => nodes_deep
  | d + 1, h => nodes_more d (by omega) (nodes_any d (by omega))
set_option maxHeartbeats 800000 in
theorem few_exp (e : PT) (w : World) (he : PT.At (· < w.heap.size) w e) : Calls Tryz.prog 43 #[e.v] w fun r w' => AnyP w w' r := by
  have hb : Below w.heap.size w (w.alloc (.cells e.enc.toArray 25)) := qbl
  have hcall := nodes_any 16 (Nat.le_refl _) e 60 _ (by omega) (by omega) (he.later hb)
  have HB := Lib.hid hb
  clear hb he
  obtain ⟨o, a, u, s, A, c, l⟩ := e
  simp only [PT.v, PT.enc] at hcall HB ⊢
  go_enter Tryz.func43, Tryz.ntmps43
  go_wp2_with fail
  refine hcall.mono ?_
  clear hcall
  rintro e w2 ⟨k, rfl, _, _, hb2⟩
  have HB2 : Hid (Below w.heap.size w w2) := Lib.hid (HB.out.trans (hb2.mono HB.out.size))
  clear hb2
  go_wp2_with fail
  go_ret
  exact ⟨_, rfl, HB2.out⟩
set_option maxHeartbeats 800000 in
theorem few_names (l : Sl FT) (w : World) (hl : FactsAt (· < w.heap.size) w l) : Calls Tryz.prog 44 #[.slice l.A l.l.length l.c] w fun r w' => AnyP w w' r := by
  have hn := hl.rd.len
  have HR := Lib.hid hl
  clear hl
  obtain ⟨A, c, l⟩ := l
  simp only at hn
  simp only
  go_enter Tryz.func44, Tryz.ntmps44
  go_wp2_with fail
  go_loopw [3] (fun i wr => ∃ (k : Nat), k ≤ l.length ∧ i = .int .i64 k ∧ Below w.heap.size w wr) (fun i _ => l.length - (intOf i).toNat)
  case atStart => exact ⟨0, by omega, rfl, qbl⟩
  case round =>
    obtain ⟨k, hk, rfl, hbel⟩ := hrel
    by_cases hlt : k < l.length
    · obtain ⟨b, o, hA, hb, hcl⟩ := (HR.out.later hbel).rd.at1 hlt
      have hsz := HR.out.all _ (List.getElem_mem hlt)
      simp only at hA hcl hsz
      subst hA
      generalize l[k] = x at *
      obtain ⟨xn, xv⟩ := x
      obtain ⟨g0, g1⟩ := Cells.c2 hcl
      simp only at hsz
      clear hcl
      by_cases h40 : (40 : Int) < (xn.size : Int)
      · go_wp2_with fail
        go_ret
        exact ⟨_, rfl, hbel⟩
      · go_wp2_with fail
        go_roundw
        case rel => exact ⟨k + 1, by omega, by go_num, hbel⟩
        case measure => simp [intOf]; omega
    · go_wp2_with fail
      go_ret
      exact ⟨_, rfl, hbel⟩
end Go.Proofs.YtcgocdhhneckhaaGreat
/- Walks of FareNames: In, Names. -/
namespace Go.Proofs.YtcgocdhhneckhaaGreat
open Go.RowKit
/-- A bool; if it is false, P holds. -/
def InP (w w' : World) (P : Prop) (r : Ending) : Prop := ∃ t, r = .returned (.bool t) ∧ (t = false → P) ∧ Below w.heap.size w w'
def InIH (n : Nat) : Prop := ∀ (o : Int) (s : ByteArray) (e : PT) (w : World), SizeOf.sizeOf e < n → PT.At (· < w.heap.size) w e → Calls Tryz.prog 37 #[e.v, .int .i64 o, .string s] w fun r w' => InP w w' (NotIn o s e) r
set_option maxRecDepth 100000 in
set_option maxHeartbeats 3200000 in
theorem in_more (n : Nat) (ih : InIH n) : InIH (n + 1) := by
  rintro o s ⟨p, m, u, x, A, c, l⟩ w hn he
  have IH := Lib.hid ih
  have HE := Lib.hid he
  have HN := Lib.hid hn
  have hlen := he.rd.len
  clear ih he hn
  simp only [PT.a] at hlen
  simp only [PT.v]
  by_cases hp : p = o
  · subst hp
    rcases hs : sameB x s
    · have heq : (x.toList == s.toList) = false := hs
      have HO : Hid (p = p → sameB x s = false) := Lib.hid (fun _ => hs)
      clear hs
      go_enter Tryz.func37, Tryz.ntmps37
      go_wp2_with fail
      have HB1 : Hid (Below w.heap.size w (w.alloc (.cells #[.int .i64 p, .int .i64 m, .int .i64 u, .string x, .slice A l.length c] 25))) := Lib.hid qbl
      have HX1 : Hid (Blk (w.alloc (.cells #[.int .i64 p, .int .i64 m, .int .i64 u, .string x, .slice A l.length c] 25)) w.heap.size 25 #[.int .i64 p, .int .i64 m, .int .i64 u, .string x, .slice A l.length c]) := Lib.hid (Blk.new _ _ _)
      generalize w.alloc (.cells #[.int .i64 p, .int .i64 m, .int .i64 u, .string x, .slice A l.length c] 25) = w1 at *
      go_loopw [7] (fun i wr => ∃ (j : Nat), j ≤ l.length ∧ i = .int .i64 j ∧ Below w1.heap.size w1 wr ∧ Hid (∀ y, y ∈ l.take j → NotIn p s y)) (fun i _ => l.length - (intOf i).toNat)
      case atStart => exact ⟨0, by omega, rfl, Below.refl _ _, Lib.hid (fun y hy => by simp at hy)⟩
      case round =>
        obtain ⟨j, hj, rfl, hbel, HT⟩ := hrel
        have HBR : Hid (Below w.heap.size w wr) := Lib.hid (HB1.out.trans (hbel.mono HB1.out.size))
        have HXR := Lib.hid (HX1.out.later hbel)
        obtain ⟨a0, a1, a2, a3, a4, af, az⟩ := HXR.out.b5
        by_cases hlt : j < l.length
        · have hEW := HE.out.later HBR.out
          obtain ⟨b, q, hA, hbl, hcl⟩ := hEW.rd.at1 hlt
          have HX := Lib.hid (hEW.all _ (List.getElem_mem hlt))
          have HSZ : Hid (SizeOf.sizeOf l[j] < n) := Lib.hid (by have := List.sizeOf_lt_of_mem (List.getElem_mem hlt); have h0 := HN.out; simp only [PT.mk.sizeOf_spec] at h0; omega)
          have HSTEP : Hid (NotIn p s l[j] → ∀ y, y ∈ l.take (j + 1) → NotIn p s y) := Lib.hid (fun h y hy => by
            rw [List.take_succ_eq_append_getElem hlt] at hy
            rcases List.mem_append.1 hy with hy | hy
            · exact HT.out y hy
            · rw [List.mem_singleton.1 hy]; exact h)
          simp only [PT.a] at hA hcl HX
          clear hEW
          generalize l[j] = y at *
          obtain ⟨xo, xm, xu, xs, xA, xc, xl⟩ := y
          obtain ⟨g0, g1, g2, g3, g4⟩ := Cells.c5 hcl
          clear hcl
          subst hA
          have hcall := IH.out p s ⟨xo, xm, xu, xs, xA, xc, xl⟩ wr HSZ.out HX.out
          simp only [PT.v] at hcall
          go_wp2_with fail
          refine hcall.mono ?_
          clear hcall
          rintro e w2 ⟨t, rfl, ht, hb2⟩
          have HB2 : Hid (Below w1.heap.size w1 w2) := Lib.hid (hbel.trans (hb2.mono hbel.size))
          clear g0 g1 g2 g3 g4 a0 a1 a2 a3 a4 af az
          rcases t
          · have HT2 := Lib.hid (HSTEP.out (ht rfl))
            clear ht hb2
            go_wp2_with fail
            go_roundw
            case rel => exact ⟨j + 1, by omega, by go_num, HB2.out, HT2⟩
            case measure => simp [intOf]; omega
          · clear ht
            go_wp2_with fail
            go_ret
            exact ⟨true, rfl, by simp, HBR.out.trans (hb2.mono HBR.out.size)⟩
        · have HF : Hid (NotIn p s ⟨p, m, u, x, A, c, l⟩) := Lib.hid (NotIn.mk (by first | exact HO.out | exact fun _ => HO.out trivial) fun y hy => HT.out y (by rw [List.take_of_length_le (by omega)]; exact hy))
          go_wp2_with fail
          go_ret
          exact ⟨false, rfl, fun _ => HF.out, HBR.out⟩
    · have heq : (x.toList == s.toList) = true := hs
      clear hs
      go_enter Tryz.func37, Tryz.ntmps37
      go_wp2_with fail
      go_ret
      exact ⟨true, rfl, by simp, qbl⟩
  · have HO : Hid (p = o → sameB x s = false) := Lib.hid (fun h => absurd h hp)
    go_enter Tryz.func37, Tryz.ntmps37
    go_wp2_with fail
    have HB1 : Hid (Below w.heap.size w (w.alloc (.cells #[.int .i64 p, .int .i64 m, .int .i64 u, .string x, .slice A l.length c] 25))) := Lib.hid qbl
    have HX1 : Hid (Blk (w.alloc (.cells #[.int .i64 p, .int .i64 m, .int .i64 u, .string x, .slice A l.length c] 25)) w.heap.size 25 #[.int .i64 p, .int .i64 m, .int .i64 u, .string x, .slice A l.length c]) := Lib.hid (Blk.new _ _ _)
    generalize w.alloc (.cells #[.int .i64 p, .int .i64 m, .int .i64 u, .string x, .slice A l.length c] 25) = w1 at *
    go_loopw [7] (fun i wr => ∃ (j : Nat), j ≤ l.length ∧ i = .int .i64 j ∧ Below w1.heap.size w1 wr ∧ Hid (∀ y, y ∈ l.take j → NotIn o s y)) (fun i _ => l.length - (intOf i).toNat)
    case atStart => exact ⟨0, by omega, rfl, Below.refl _ _, Lib.hid (fun y hy => by simp at hy)⟩
    case round =>
      obtain ⟨j, hj, rfl, hbel, HT⟩ := hrel
      have HBR : Hid (Below w.heap.size w wr) := Lib.hid (HB1.out.trans (hbel.mono HB1.out.size))
      have HXR := Lib.hid (HX1.out.later hbel)
      obtain ⟨a0, a1, a2, a3, a4, af, az⟩ := HXR.out.b5
      by_cases hlt : j < l.length
      · have hEW := HE.out.later HBR.out
        obtain ⟨b, q, hA, hbl, hcl⟩ := hEW.rd.at1 hlt
        have HX := Lib.hid (hEW.all _ (List.getElem_mem hlt))
        have HSZ : Hid (SizeOf.sizeOf l[j] < n) := Lib.hid (by have := List.sizeOf_lt_of_mem (List.getElem_mem hlt); have h0 := HN.out; simp only [PT.mk.sizeOf_spec] at h0; omega)
        have HSTEP : Hid (NotIn o s l[j] → ∀ y, y ∈ l.take (j + 1) → NotIn o s y) := Lib.hid (fun h y hy => by
          rw [List.take_succ_eq_append_getElem hlt] at hy
          rcases List.mem_append.1 hy with hy | hy
          · exact HT.out y hy
          · rw [List.mem_singleton.1 hy]; exact h)
        simp only [PT.a] at hA hcl HX
        clear hEW
        generalize l[j] = y at *
        obtain ⟨xo, xm, xu, xs, xA, xc, xl⟩ := y
        obtain ⟨g0, g1, g2, g3, g4⟩ := Cells.c5 hcl
        clear hcl
        subst hA
        have hcall := IH.out o s ⟨xo, xm, xu, xs, xA, xc, xl⟩ wr HSZ.out HX.out
        simp only [PT.v] at hcall
        go_wp2_with fail
        refine hcall.mono ?_
        clear hcall
        rintro e w2 ⟨t, rfl, ht, hb2⟩
        have HB2 : Hid (Below w1.heap.size w1 w2) := Lib.hid (hbel.trans (hb2.mono hbel.size))
        clear g0 g1 g2 g3 g4 a0 a1 a2 a3 a4 af az
        rcases t
        · have HT2 := Lib.hid (HSTEP.out (ht rfl))
          clear ht hb2
          go_wp2_with fail
          go_roundw
          case rel => exact ⟨j + 1, by omega, by go_num, HB2.out, HT2⟩
          case measure => simp [intOf]; omega
        · clear ht
          go_wp2_with fail
          go_ret
          exact ⟨true, rfl, by simp, HBR.out.trans (hb2.mono HBR.out.size)⟩
      · have HF : Hid (NotIn o s ⟨p, m, u, x, A, c, l⟩) := Lib.hid (NotIn.mk (by first | exact HO.out | exact fun _ => HO.out trivial) fun y hy => HT.out y (by rw [List.take_of_length_le (by omega)]; exact hy))
        go_wp2_with fail
        go_ret
        exact ⟨false, rfl, fun _ => HF.out, HBR.out⟩
theorem in_any : ∀ n, InIH n
  | 0 => fun _ _ _ _ h => absurd h (Nat.not_lt_zero _)
  | n + 1 => in_more n (in_any n)
theorem ref_In (o : Int) (s : ByteArray) (e : PT) (w : World) (he : PT.At (· < w.heap.size) w e) : Calls Tryz.prog 37 #[e.v, .int .i64 o, .string s] w fun r w' => InP w w' (NotIn o s e) r := in_any (SizeOf.sizeOf e + 1) o s e w (by omega) he
end Go.Proofs.YtcgocdhhneckhaaGreat
