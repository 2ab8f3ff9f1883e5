/- Walk: units.known. -/
import Derived.Test.YtcgocdhhneckhaaGreatFnammxak
import Derived.Test.YtcgocdhhneckhaaGreatFnammxax
namespace Go.Proofs.YtcgocdhhneckhaaGreat
open Go.RowKit
/-- A unit, or a panic with a reason. -/
def UnP (w w' : World) (u en : Int) (e : Ending) : Prop :=
  (en = 0 ∧ e = .returned (.int .i64 u) ∨ en ≠ 0 ∧ ∃ (A : Option Addr) (n c : Nat), e = .panicked [{ v := .iface 100 (.agg #[.slice A n c, .int .i64 en]), recovered := false }]) ∧ Below w.heap.size w w'
set_option maxHeartbeats 800000 in
theorem un_known_member (s : ByteArray) (p : Sl Int) (w : World) (hp : Rd (· < w.heap.size) 1 ienc w p) (hb : p.l.length ≤ 1000000) :
    Calls Tryz.prog 140 #[.func (.func 142) #[] #[], .string s, .slice p.A p.l.length p.c] w fun e w' => UnP w w' ((memU s).getD 0) (if (memU s).isSome then 0 else 14) e := by
  have HT := Lib.hid (fun w2 => un_member s w2)
  have HP := Lib.hid hp
  clear hp
  rcases hu : memU s with _ | u
  · rw [hu] at HT
    clear hu
    simp only [optV, Option.getD, Option.isSome] at HT ⊢
    go_enter Tryz.func140, Tryz.ntmps140
    go_wp2_with fail
    refine (HT.out _).mono ?_
    rintro e w' ⟨rfl, rfl⟩
    go_wp2_with fail
    refine (clone_int p _ HP.out (by omega)).mono ?_
    rintro e w3 ⟨cA, cc, rfl, hown, hb3⟩
    simp only
    go_wp2_with fail
    exact ⟨rfl, .inr ⟨by decide, cA, _, cc, rfl⟩, hb3⟩
  · rw [hu] at HT
    clear hu
    simp only [optV, Option.getD, Option.isSome] at HT ⊢
    go_enter Tryz.func140, Tryz.ntmps140
    go_wp2_with fail
    refine (HT.out _).mono ?_
    rintro e w' ⟨rfl, rfl⟩
    go_wp2_with fail
    go_ret
    exact ⟨.inl ⟨rfl, rfl⟩, Below.refl _ _⟩
set_option maxHeartbeats 800000 in
theorem un_known_trip (s : ByteArray) (p : Sl Int) (w : World) (hp : Rd (· < w.heap.size) 1 ienc w p) (hb : p.l.length ≤ 1000000) :
    Calls Tryz.prog 140 #[.func (.func 141) #[] #[], .string s, .slice p.A p.l.length p.c] w fun e w' => UnP w w' ((triU s).getD 0) (if (triU s).isSome then 0 else 14) e := by
  have HT := Lib.hid (fun w2 => un_trip s w2)
  have HP := Lib.hid hp
  clear hp
  rcases hu : triU s with _ | u
  · rw [hu] at HT
    clear hu
    simp only [optV, Option.getD, Option.isSome] at HT ⊢
    go_enter Tryz.func140, Tryz.ntmps140
    go_wp2_with fail
    refine (HT.out _).mono ?_
    rintro e w' ⟨rfl, rfl⟩
    go_wp2_with fail
    refine (clone_int p _ HP.out (by omega)).mono ?_
    rintro e w3 ⟨cA, cc, rfl, hown, hb3⟩
    simp only
    go_wp2_with fail
    exact ⟨rfl, .inr ⟨by decide, cA, _, cc, rfl⟩, hb3⟩
  · rw [hu] at HT
    clear hu
    simp only [optV, Option.getD, Option.isSome] at HT ⊢
    go_enter Tryz.func140, Tryz.ntmps140
    go_wp2_with fail
    refine (HT.out _).mono ?_
    rintro e w' ⟨rfl, rfl⟩
    go_wp2_with fail
    go_ret
    exact ⟨.inl ⟨rfl, rfl⟩, Below.refl _ _⟩
end Go.Proofs.YtcgocdhhneckhaaGreat
/- The plain law of units.of: the unit of an expression, or an errno. -/
namespace Go.Proofs.YtcgocdhhneckhaaGreat
open Go.RowKit
/-- The units of all, or the errno of the first that has none. -/
def seqU : List (Int × Int) → List Int × Int
  | [] => ([], 0)
  | (u, e) :: r => if e = 0 then (u :: (seqU r).1, (seqU r).2) else ([], e)
def knU (u : Option Int) : Int × Int := (u.getD 0, if u.isSome then 0 else 14)
def unU (L : List LT) (U : List Int) : Nat → PT → Int × Int
  | 0, _ => (0, 0)
  | k + 1, ⟨o, _, u, s, _, _, l⟩ =>
    if o = 0 then (u, 0)
    else if o = 2 then knU (triU s)
    else if o = 3 then knU (memU s)
    else if o = 1 then (if nameU s L U = -1 then (0, 14) else (nameU s L U, 0))
    else if (seqU (l.map (unU L U k))).2 ≠ 0 then (0, (seqU (l.map (unU L U k))).2)
    else if joinU o (seqU (l.map (unU L U k))).1 = -1 then (0, 13)
    else (joinU o (seqU (l.map (unU L U k))).1, 0)
theorem seqU_append_ok : ∀ (a b : List (Int × Int)), (seqU a).2 = 0 → seqU (a ++ b) = ((seqU a).1 ++ (seqU b).1, (seqU b).2)
  | [], b, _ => rfl
  | (u, e) :: r, b, h => by
    by_cases he : e = 0
    · have hr : (seqU r).2 = 0 := by simpa [seqU, he] using h
      simp [seqU, he, seqU_append_ok r b hr]
    · exact absurd h (by simp [seqU, he])
theorem seqU_append_no : ∀ (a b : List (Int × Int)) (u e : Int), (seqU a).2 = 0 → e ≠ 0 → (seqU (a ++ (u, e) :: b)).2 = e
  | a, b, u, e, h, he => by rw [seqU_append_ok a _ h]; simp [seqU, he]
theorem seqU_len : ∀ a : List (Int × Int), (seqU a).2 = 0 → (seqU a).1.length = a.length
  | [], _ => rfl
  | (u, e) :: r, h => by
    by_cases he : e = 0
    · have hr : (seqU r).2 = 0 := by simpa [seqU, he] using h
      simp [seqU, he, seqU_len r hr]
    · exact absurd h (by simp [seqU, he])
end Go.Proofs.YtcgocdhhneckhaaGreat
/- Walk: units.of where nothing is called again. -/
namespace Go.Proofs.YtcgocdhhneckhaaGreat
open Go.RowKit
def ScV (L : Sl LT) (U : Sl Int) : Value := .agg #[.slice L.A L.l.length L.c, .slice U.A U.l.length U.c]
set_option maxHeartbeats 800000 in
theorem un_of_num (L : Sl LT) (U : Sl Int) (p : Sl Int) (k : Nat) (n u : Int) (s : ByteArray) (A : Option Addr) (c : Nat) (l : List PT) (w : World) :
    Calls Tryz.prog 101 #[ScV L U, PT.v ⟨0, n, u, s, A, c, l⟩, .slice p.A p.l.length p.c] w fun e w' => UnP w w' (unU L.l U.l (k + 1) ⟨0, n, u, s, A, c, l⟩).1 (unU L.l U.l (k + 1) ⟨0, n, u, s, A, c, l⟩).2 e := by
  have HV : Hid (unU L.l U.l (k + 1) ⟨0, n, u, s, A, c, l⟩ = (u, 0)) := Lib.hid (by unfold unU; rw [if_pos rfl])
  rw [HV.out]
  clear HV
  simp only [ScV, PT.v]
  go_enter Tryz.func101, Tryz.ntmps101
  go_wp2_with fail
  go_ret
  exact ⟨.inl ⟨rfl, rfl⟩, qbl⟩
set_option maxHeartbeats 800000 in
theorem un_of_trip (L : Sl LT) (U : Sl Int) (p : Sl Int) (k : Nat) (n u : Int) (s : ByteArray) (A : Option Addr) (c : Nat) (l : List PT) (w : World) (hp : Rd (· < w.heap.size) 1 ienc w p) (hb : p.l.length ≤ 1000000) :
    Calls Tryz.prog 101 #[ScV L U, PT.v ⟨2, n, u, s, A, c, l⟩, .slice p.A p.l.length p.c] w fun e w' => UnP w w' (unU L.l U.l (k + 1) ⟨2, n, u, s, A, c, l⟩).1 (unU L.l U.l (k + 1) ⟨2, n, u, s, A, c, l⟩).2 e := by
  have HV : Hid (unU L.l U.l (k + 1) ⟨2, n, u, s, A, c, l⟩ = knU (triU s)) := Lib.hid (by unfold unU; simp)
  rw [HV.out]
  clear HV
  have HP := Lib.hid hp
  clear hp
  simp only [ScV, PT.v, knU]
  obtain ⟨V, hV⟩ : ∃ V, (triU s).getD 0 = V := ⟨_, rfl⟩
  obtain ⟨E, hE⟩ : ∃ E : Int, (if (triU s).isSome then (0 : Int) else 14) = E := ⟨_, rfl⟩
  have HK := Lib.hid (fun w2 h => un_known_trip s p w2 h hb)
  rw [hV, hE] at HK ⊢
  clear hV hE
  go_enter Tryz.func101, Tryz.ntmps101
  go_wp2_with fail
  have hB : Below w.heap.size w ((w.alloc (.cells #[.slice L.A L.l.length L.c, .slice U.A U.l.length U.c] 103)).alloc (.cells #[.int .i64 2, .int .i64 n, .int .i64 u, .string s, .slice A l.length c] 25)) := qbl
  refine (HK.out _ (HP.out.later hB)).mono ?_
  rintro e w' ⟨h, hb2⟩
  have hB2 := hB.trans (hb2.mono hB.size)
  clear hb2
  rcases h with ⟨rfl, rfl⟩ | ⟨he, RA, rn, rc, rfl⟩
  · go_wp2_with fail
    go_ret
    exact ⟨.inl ⟨rfl, rfl⟩, hB2⟩
  · have HE := Lib.hid he
    clear he
    go_wp2_with fail
    exact ⟨rfl, .inr ⟨HE.out, RA, rn, rc, rfl⟩, hB2⟩
set_option maxHeartbeats 800000 in
theorem un_of_member (L : Sl LT) (U : Sl Int) (p : Sl Int) (k : Nat) (n u : Int) (s : ByteArray) (A : Option Addr) (c : Nat) (l : List PT) (w : World) (hp : Rd (· < w.heap.size) 1 ienc w p) (hb : p.l.length ≤ 1000000) :
    Calls Tryz.prog 101 #[ScV L U, PT.v ⟨3, n, u, s, A, c, l⟩, .slice p.A p.l.length p.c] w fun e w' => UnP w w' (unU L.l U.l (k + 1) ⟨3, n, u, s, A, c, l⟩).1 (unU L.l U.l (k + 1) ⟨3, n, u, s, A, c, l⟩).2 e := by
  have HV : Hid (unU L.l U.l (k + 1) ⟨3, n, u, s, A, c, l⟩ = knU (memU s)) := Lib.hid (by unfold unU; simp)
  rw [HV.out]
  clear HV
  have HP := Lib.hid hp
  clear hp
  simp only [ScV, PT.v, knU]
  obtain ⟨V, hV⟩ : ∃ V, (memU s).getD 0 = V := ⟨_, rfl⟩
  obtain ⟨E, hE⟩ : ∃ E : Int, (if (memU s).isSome then (0 : Int) else 14) = E := ⟨_, rfl⟩
  have HK := Lib.hid (fun w2 h => un_known_member s p w2 h hb)
  rw [hV, hE] at HK ⊢
  clear hV hE
  go_enter Tryz.func101, Tryz.ntmps101
  go_wp2_with fail
  have hB : Below w.heap.size w ((w.alloc (.cells #[.slice L.A L.l.length L.c, .slice U.A U.l.length U.c] 103)).alloc (.cells #[.int .i64 3, .int .i64 n, .int .i64 u, .string s, .slice A l.length c] 25)) := qbl
  refine (HK.out _ (HP.out.later hB)).mono ?_
  rintro e w' ⟨h, hb2⟩
  have hB2 := hB.trans (hb2.mono hB.size)
  clear hb2
  rcases h with ⟨rfl, rfl⟩ | ⟨he, RA, rn, rc, rfl⟩
  · go_wp2_with fail
    go_ret
    exact ⟨.inl ⟨rfl, rfl⟩, hB2⟩
  · have HE := Lib.hid he
    clear he
    go_wp2_with fail
    exact ⟨rfl, .inr ⟨HE.out, RA, rn, rc, rfl⟩, hB2⟩
end Go.Proofs.YtcgocdhhneckhaaGreat
/- Walk: units.of at names. -/
namespace Go.Proofs.YtcgocdhhneckhaaGreat
open Go.RowKit
set_option maxHeartbeats 800000 in
theorem un_of_name (L : Sl LT) (U : Sl Int) (p : Sl Int) (k : Nat) (n u : Int) (s : ByteArray) (A : Option Addr) (c : Nat) (l : List PT) (w : World) (hL : LetsAt (· < w.heap.size) w L) (hU : Rd (· < w.heap.size) 1 ienc w U) (hlen : U.l.length = L.l.length) (hp : Rd (· < w.heap.size) 1 ienc w p) (hb : p.l.length ≤ 1000000) :
    Calls Tryz.prog 101 #[ScV L U, PT.v ⟨1, n, u, s, A, c, l⟩, .slice p.A p.l.length p.c] w fun e w' => UnP w w' (unU L.l U.l (k + 1) ⟨1, n, u, s, A, c, l⟩).1 (unU L.l U.l (k + 1) ⟨1, n, u, s, A, c, l⟩).2 e := by
  have HV : Hid (unU L.l U.l (k + 1) ⟨1, n, u, s, A, c, l⟩ = if nameU s L.l U.l = -1 then (0, 14) else (nameU s L.l U.l, 0)) := Lib.hid (by unfold unU; simp)
  rw [HV.out]
  clear HV
  have HP := Lib.hid hp
  have HL := Lib.hid hL
  have HU := Lib.hid hU
  have HN := Lib.hid (fun w2 h1 h2 => un_name L U s w2 h1 h2 hlen)
  clear hp hL hU hlen
  simp only [ScV, PT.v]
  obtain ⟨V, hV⟩ : ∃ V, nameU s L.l U.l = V := ⟨_, rfl⟩
  rw [hV] at HN ⊢
  clear hV
  by_cases h1 : V = -1
  · subst h1
    rw [if_pos rfl]
    simp only
    go_enter Tryz.func101, Tryz.ntmps101
    go_wp2_with fail
    have hB : Below w.heap.size w ((w.alloc (.cells #[.slice L.A L.l.length L.c, .slice U.A U.l.length U.c] 103)).alloc (.cells #[.int .i64 1, .int .i64 n, .int .i64 u, .string s, .slice A l.length c] 25)) := qbl
    refine (HN.out _ (HL.out.later hB) (HU.out.later hB)).mono ?_
    rintro e w' ⟨rfl, hb2⟩
    have hB2 := hB.trans (hb2.mono hB.size)
    clear hb2
    go_wp2_with fail
    refine (clone_int p _ (HP.out.later hB2) (by omega)).mono ?_
    rintro e w3 ⟨cA, cc, rfl, hown, hb3⟩
    have hB3 := hB2.trans (hb3.mono hB2.size)
    clear hown hb3
    simp only
    go_wp2_with fail
    exact ⟨rfl, .inr ⟨by decide, cA, _, cc, rfl⟩, hB3⟩
  · rw [if_neg h1]
    simp only
    go_enter Tryz.func101, Tryz.ntmps101
    go_wp2_with fail
    have hB : Below w.heap.size w ((w.alloc (.cells #[.slice L.A L.l.length L.c, .slice U.A U.l.length U.c] 103)).alloc (.cells #[.int .i64 1, .int .i64 n, .int .i64 u, .string s, .slice A l.length c] 25)) := qbl
    refine (HN.out _ (HL.out.later hB) (HU.out.later hB)).mono ?_
    rintro e w' ⟨rfl, hb2⟩
    have hB2 := hB.trans (hb2.mono hB.size)
    clear hb2
    go_wp2_with fail
    go_ret
    exact ⟨.inl ⟨rfl, rfl⟩, hB2⟩
end Go.Proofs.YtcgocdhhneckhaaGreat
/- Walk: units.of at operations. -/
namespace Go.Proofs.YtcgocdhhneckhaaGreat
open Go.RowKit
def UnIH (L : Sl LT) (U : Sl Int) (k : Nat) : Prop := ∀ (x : PT) (p : Sl Int) (W : World), okE k x = true → PT.At (· < W.heap.size) W x → LetsAt (· < W.heap.size) W L → Rd (· < W.heap.size) 1 ienc W U → Rd (· < W.heap.size) 1 ienc W p → p.l.length + k ≤ 1000 →
  Calls Tryz.prog 101 #[ScV L U, x.v, .slice p.A p.l.length p.c] W fun e w' => UnP W w' (unU L.l U.l k x).1 (unU L.l U.l k x).2 e
theorem own_row_ge {α : Type} {B : Nat} {W : World} {e : TypeId} {k : Nat} {enc : α → List Value} {s : Sl α} (h : Own B e k enc W s) : ∀ n, (Value.slice s.A s.l.length s.c).ownBlock = some n → B ≤ n ∧ n < W.heap.size := by
  intro n hn
  rcases h.form with ⟨hA, _⟩ | ⟨g', hA, h1, h2, _⟩
  · rw [hA] at hn; simp [Value.ownBlock] at hn
  · rw [hA] at hn; simp only [Value.ownBlock] at hn; injection hn with hn; omega
theorem cell_grown {w w' : World} {r : Option Nat} {p : Addr} {v : Value} (h : w.cell? p = some v) (hg : w.grownBy w' r) (hne : some p.block ≠ r) : w'.cell? p = some v :=
  (World.cell?_of_block (w := w) (hg.block p.block (World.block_lt_of_cell? w p h) hne)).trans h
theorem unU_op {L : List LT} {U : List Int} {k : Nat} {o n u : Int} {s : ByteArray} {A : Option Addr} {c : Nat} {l : List PT} (h0 : ¬ o = 0) (h1 : ¬ o = 1) (h2 : ¬ o = 2) (h3 : ¬ o = 3) :
    unU L U (k + 1) ⟨o, n, u, s, A, c, l⟩ = if (seqU (l.map (unU L U k))).2 ≠ 0 then (0, (seqU (l.map (unU L U k))).2) else if joinU o (seqU (l.map (unU L U k))).1 = -1 then (0, 13) else (joinU o (seqU (l.map (unU L U k))).1, 0) := by
  conv => lhs; unfold unU
  rw [if_neg h0, if_neg h2, if_neg h3, if_neg h1]
theorem seq_no {α : Type} {f : α → Int × Int} {l : List α} {j : Nat} {x : α} {ul : List Int} (ht : l.take (j + 1) = l.take j ++ [x]) (hg : seqU ((l.take j).map f) = (ul, 0)) (hx : (f x).2 ≠ 0) : (seqU (l.map f)).2 = (f x).2 := by
  rw [← List.take_append_drop (j + 1) l, ht, List.map_append, List.map_append, List.append_assoc]
  exact seqU_append_no _ _ (f x).1 (f x).2 (by rw [hg]) hx
theorem seq_ok {α : Type} {f : α → Int × Int} {l : List α} {j : Nat} {x : α} {ul : List Int} (ht : l.take (j + 1) = l.take j ++ [x]) (hg : seqU ((l.take j).map f) = (ul, 0)) (hx : (f x).2 = 0) : seqU ((l.take (j + 1)).map f) = (ul ++ [(f x).1], 0) := by
  rw [ht, List.map_append, seqU_append_ok _ _ (by rw [hg]), hg]
  simp [seqU, hx]
set_option maxRecDepth 100000 in
set_option maxHeartbeats 3200000 in
theorem un_of_op (L : Sl LT) (U : Sl Int) (p : Sl Int) (k : Nat) (ih : UnIH L U k) (o n u : Int) (s : ByteArray) (A : Option Addr) (c : Nat) (l : List PT) (w : World) (h0 : ¬ o = 0) (h1 : ¬ o = 1) (h2 : ¬ o = 2) (h3 : ¬ o = 3) (he : PT.At (· < w.heap.size) w ⟨o, n, u, s, A, c, l⟩) (hok : ∀ x, x ∈ l → okE k x = true) (h15 : o = 15 → l.length = 3) (hl3 : l.length ≤ 3)
    (hL : LetsAt (· < w.heap.size) w L) (hU : Rd (· < w.heap.size) 1 ienc w U) (hp : Rd (· < w.heap.size) 1 ienc w p) (hb : p.l.length + (k + 1) ≤ 1000) :
    Calls Tryz.prog 101 #[ScV L U, PT.v ⟨o, n, u, s, A, c, l⟩, .slice p.A p.l.length p.c] w fun e w' => UnP w w' (unU L.l U.l (k + 1) ⟨o, n, u, s, A, c, l⟩).1 (unU L.l U.l (k + 1) ⟨o, n, u, s, A, c, l⟩).2 e := by
  have HI := Lib.hid ih
  have HP := Lib.hid hp
  have HL := Lib.hid hL
  have HU := Lib.hid hU
  have HE := Lib.hid he
  have HOK := Lib.hid hok
  have H15 := Lib.hid h15
  obtain ⟨V, hV⟩ : ∃ V, unU L.l U.l (k + 1) ⟨o, n, u, s, A, c, l⟩ = V := ⟨_, rfl⟩
  rw [hV]
  have HV := Lib.hid hV
  clear ih hp hL hU he hok h15 hV
  simp only [ScV, PT.v]
  go_enter Tryz.func101, Tryz.ntmps101
  go_wp2_with fail
  have HB : Hid (Below w.heap.size w ((w.alloc (.cells #[.slice L.A L.l.length L.c, .slice U.A U.l.length U.c] 103)).alloc (.cells #[.int .i64 o, .int .i64 n, .int .i64 u, .string s, .slice A l.length c] 25))) := Lib.hid qbl
  have HA : Hid (Blk ((w.alloc (.cells #[.slice L.A L.l.length L.c, .slice U.A U.l.length U.c] 103)).alloc (.cells #[.int .i64 o, .int .i64 n, .int .i64 u, .string s, .slice A l.length c] 25)) w.heap.size 103 #[.slice L.A L.l.length L.c, .slice U.A U.l.length U.c]) := Lib.hid ((Blk.new _ _ _).alloc _)
  have HC : Hid (Blk ((w.alloc (.cells #[.slice L.A L.l.length L.c, .slice U.A U.l.length U.c] 103)).alloc (.cells #[.int .i64 o, .int .i64 n, .int .i64 u, .string s, .slice A l.length c] 25)) (w.heap.size + 1) 25 #[.int .i64 o, .int .i64 n, .int .i64 u, .string s, .slice A l.length c]) := Lib.hid (Blk.new' (by simp))
  generalize (w.alloc (.cells #[.slice L.A L.l.length L.c, .slice U.A U.l.length U.c] 103)).alloc (.cells #[.int .i64 o, .int .i64 n, .int .i64 u, .string s, .slice A l.length c] 25) = w1 at *
  go_loopw [8, 46] (fun t i wr => ∃ (j : Nat) (B : Option Addr) (d : Nat) (ul : List Int), j ≤ l.length ∧ ul.length = j ∧ i = .int .i64 j ∧ t = .slice B ul.length d ∧ Hid (Own w1.heap.size 3 1 ienc wr ⟨B, d, ul⟩) ∧ Below w1.heap.size w1 wr ∧ Hid (seqU ((l.take j).map (unU L.l U.l k)) = (ul, 0))) (fun _ i _ => l.length - (intOf i).toNat)
  case atStart => exact ⟨0, none, 0, [], by omega, rfl, rfl, rfl, Lib.hid (Own.nil _ _ _ _ _), Below.refl _ _, Lib.hid (by simp [seqU])⟩
  case round =>
    obtain ⟨j, B, d, ul, hj, hul, rfl, rfl, HW, hbel, HG⟩ := hrel
    have hhe : w1.heap.size ≤ wr.heap.size := hbel.size
    by_cases hlt : j < l.length
    · have hEW := HE.out.later (HB.out.trans (hbel.mono HB.out.size))
      obtain ⟨b, q, hA, hbl, hcl⟩ := hEW.rd.at1 hlt
      have HX := Lib.hid (hEW.all _ (List.getElem_mem hlt))
      have HKX := Lib.hid (HOK.out _ (List.getElem_mem hlt))
      simp only [PT.a] at hA hcl HX
      subst hA
      have ht : l.take (j + 1) = l.take j ++ [l[j]] := by rw [List.take_succ_eq_append_getElem hlt]
      have HT := Lib.hid ht
      have HN := Lib.hid hul
      have hnb : ul.length + 1 ≤ 3 := by omega
      clear hEW ht hul
      generalize l[j] = x at *
      obtain ⟨xo, xm, xu, xs, xA, xc, xl⟩ := x
      obtain ⟨g0, g1, g2, g3, g4⟩ := Cells.c5 hcl
      clear hcl
      go_wp2_with fail
      have HX0 : Hid (Blk (wr.alloc (.cells #[.int .i64 xo, .int .i64 xm, .int .i64 xu, .string xs, .slice xA xl.length xc] 25)) wr.heap.size 25 #[.int .i64 xo, .int .i64 xm, .int .i64 xu, .string xs, .slice xA xl.length xc]) := Lib.hid (Blk.new _ _ _)
      have HK0 : Hid (Below wr.heap.size wr (wr.alloc (.cells #[.int .i64 xo, .int .i64 xm, .int .i64 xu, .string xs, .slice xA xl.length xc] 25))) := Lib.hid qbl
      generalize wr.alloc (.cells #[.int .i64 xo, .int .i64 xm, .int .i64 xu, .string xs, .slice xA xl.length xc] 25) = wb at *
      have HSS : Hid (∀ W : World, Below wb.heap.size wb W → W.cell? ⟨w.heap.size, 0, none⟩ = some (.slice L.A L.l.length L.c) ∧ W.cell? ⟨w.heap.size, 1, none⟩ = some (.slice U.A U.l.length U.c) ∧ W.cell? ⟨wr.heap.size, 0, none⟩ = some (.int .i64 xo) ∧ W.cell? ⟨wr.heap.size, 1, none⟩ = some (.int .i64 xm) ∧ W.cell? ⟨wr.heap.size, 2, none⟩ = some (.int .i64 xu) ∧ W.cell? ⟨wr.heap.size, 3, none⟩ = some (.string xs) ∧ W.cell? ⟨wr.heap.size, 4, none⟩ = some (.slice xA xl.length xc)) := Lib.hid (fun W hW => by
        have hb1 := (HA.out.later (hbel.trans (HK0.out.mono hhe))).later hW
        have hb2 := HX0.out.later hW
        exact ⟨hb1.cell 0, hb1.cell 1, hb2.cell 0, hb2.cell 1, hb2.cell 2, hb2.cell 3, hb2.cell 4⟩)
      clear g0 g1 g2 g3 g4
      refine wp_region_T (fun W => W.cell? ⟨w.heap.size, 0, none⟩ = some (.slice L.A L.l.length L.c) ∧ W.cell? ⟨w.heap.size, 1, none⟩ = some (.slice U.A U.l.length U.c) ∧ W.cell? ⟨wr.heap.size, 0, none⟩ = some (.int .i64 xo) ∧ W.cell? ⟨wr.heap.size, 1, none⟩ = some (.int .i64 xm) ∧ W.cell? ⟨wr.heap.size, 2, none⟩ = some (.int .i64 xu) ∧ W.cell? ⟨wr.heap.size, 3, none⟩ = some (.string xs) ∧ W.cell? ⟨wr.heap.size, 4, none⟩ = some (.slice xA xl.length xc)) (fun _ => false) (by kernel_rfl) (HSS.out _ (Below.drew (Below.refl _ _))) (fun hHeld => ?_)
      refine qtq 0 ?_
      simp only [qsa, qsb, qsc]
      refine qtq 1 ?_
      simp only [qsa, qsb, qsc]
      refine qtq 2 ?_
      simp only [qsa, qsb, qsc]
      refine qtq 3 ?_
      simp only [qsa, qsb, qsc]
      refine qtq 5 ?_
      simp only [qsa, qsb, qsc]
      clear hHeld
      apply cutT
      · intro fin0
        have FIN := Lib.hid fin0
        clear fin0
        refine wpAnyT_two (i := 4) (j := 6) (by kernel_rfl) rfl rfl ?_ ?_
        · skip
          go_wp2_with fail
          refine (clone_int p _ (HP.out.later (HB.out.trans ((hbel.trans ((HK0.out.trans ((Below.drew (Below.refl _ _)).mono HK0.out.size)).mono hhe)).mono HB.out.size))) (by omega)).mono ?_
          rintro e wc ⟨cA, cc, rfl, hown, hbc⟩
          have HQ : Hid (Below wb.heap.size wb wc) := Lib.hid (Below.trans (Below.drew (Below.refl _ _)) hbc)
          have HOW := Lib.hid hown
          clear hbc hown
          go_wp2_with fail
          refine And.intro (by first | exact fun _ => (HSS.out _ HQ.out) | exact (HSS.out _ HQ.out)) ?_
          have HQ2 : Hid (Below wb.heap.size wb (wc.alloc (.cells #[.int .i64 j] 3))) := Lib.hid (HQ.out.alloc HQ.out.size _)
          have HO2 : Hid (Own wb.heap.size 3 1 ienc (wc.alloc (.cells #[.int .i64 j] 3)) ⟨cA, cc, p.l⟩) := Lib.hid (Own.alloc HOW.out _)
          have HG2 : Hid (Blk (wc.alloc (.cells #[.int .i64 j] 3)) wc.heap.size 3 #[.int .i64 j]) := Lib.hid (Blk.new _ _ _)
          refine wpAnyT_next (i := 6) (by kernel_rfl) rfl ?_
          go_wp2_with fail
          refine And.intro (by first | exact fun _ => (HSS.out _ HQ2.out) | exact (HSS.out _ HQ2.out)) ?_
          clear HQ HOW
          generalize wc.alloc (.cells #[.int .i64 j] 3) = W2 at *
          generalize wc.heap.size = g2 at *
          revert HG2 HO2 HQ2
          revert cA cc g2 W2
          exact FIN.out
        · skip
          have HQ1 : Hid (Below wb.heap.size wb ((wb.alloc (.cells #[.int .i64 j] 3)).drew)) := Lib.hid qbl
          have HG1 : Hid (Blk ((wb.alloc (.cells #[.int .i64 j] 3)).drew) wb.heap.size 3 #[.int .i64 j]) := Lib.hid (Blk.new _ _ _).drew
          go_wp2_with fail
          refine And.intro (by first | exact fun _ => (HSS.out _ HQ1.out) | exact (HSS.out _ HQ1.out)) ?_
          refine wpAnyT_next (i := 4) (by kernel_rfl) rfl ?_
          go_wp2_with fail
          refine (clone_int p _ (HP.out.later (HB.out.trans ((hbel.trans ((HK0.out.trans (HQ1.out.mono HK0.out.size)).mono hhe)).mono HB.out.size))) (by omega)).mono ?_
          rintro e wc ⟨cA, cc, rfl, hown, hbc⟩
          have HQ2 : Hid (Below wb.heap.size wb wc) := Lib.hid (HQ1.out.trans (hbc.mono HQ1.out.size))
          have HO2 : Hid (Own wb.heap.size 3 1 ienc wc ⟨cA, cc, p.l⟩) := Lib.hid (hown.mono HQ1.out.size)
          have HG2 : Hid (Blk wc wb.heap.size 3 #[.int .i64 j]) := Lib.hid (HG1.out.later hbc)
          clear hbc hown
          go_wp2_with fail
          refine And.intro (by first | exact fun _ => (HSS.out _ HQ2.out) | exact (HSS.out _ HQ2.out)) ?_
          exact wpAnyT_listed (by kernel_rfl) (FIN.out _ _ _ _ HQ2 HO2 HG2)
      · intro cA cc W2 g2 HQ2 HO2 HG2
        have hpl : p.l.length ≤ 1000 := by omega
        refine wpAnyT_next (i := 7) (by kernel_rfl) rfl ?_
        refine wpl_append_sl _ rfl (.tmp 55) (.tmp 57) _ rfl Tryz.underlying60 infoInt (by omega) ienc_k ienc_one ⟨cA, cc, p.l⟩ ⟨some ⟨g2, 0, none⟩, 1, [(j : Int)]⟩ rfl rfl HO2.out (rd_one HG2.out) (by simp [maxLen]; omega) (by simp; omega) HQ2.out.size ?_
        intro A3 c3 w3 hown3 hg3 hA3
        have HQ3 : Hid (Below wb.heap.size wb w3) := Lib.hid (HQ2.out.grown hg3 HQ2.out.size (fun k hk => by have := World.ownsRow.lt HO2.out k hk; omega))
        have HO3 := Lib.hid hown3
        clear hown3 hg3 hA3 HO2 HG2 HQ2
        go_wp2_with fail
        refine And.intro (by first | exact fun _ => (HSS.out _ HQ3.out) | exact (HSS.out _ HQ3.out)) ?_
        have hBw3 : Hid (Below wr.heap.size wr w3) := Lib.hid (HK0.out.trans (HQ3.out.mono HK0.out.size))
        have hB3 : Hid (Below w.heap.size w w3) := Lib.hid (HB.out.trans ((hbel.trans (hBw3.out.mono hhe)).mono HB.out.size))
        have hcall := HI.out ⟨xo, xm, xu, xs, xA, xc, xl⟩ ⟨A3, c3, p.l ++ [(j : Int)]⟩ w3 HKX.out (HX.out.later hBw3.out) (HL.out.later hB3.out) (HU.out.later hB3.out) (HO3.out.rd ienc_k |>.mono (fun b hb => hb.2)) (by simp only [List.length_append, List.length_singleton]; omega)
        simp only [List.length_append, List.length_singleton, ScV, PT.v] at hcall
        obtain ⟨X, hX⟩ : ∃ X, unU L.l U.l k ⟨xo, xm, xu, xs, xA, xc, xl⟩ = X := ⟨_, rfl⟩
        rw [hX] at hcall
        have HXV := Lib.hid hX
        clear hX
        refine wpAnyT_next (i := 8) (by kernel_rfl) rfl ?_
        go_wp2_with fail
        refine hcall.mono ?_
        clear hcall
        rintro e w4 ⟨hu, hb4⟩
        have HQ4 : Hid (Below wb.heap.size wb w4) := Lib.hid (HQ3.out.trans (hb4.mono HQ3.out.size))
        clear hb4
        rcases hu with ⟨hx2, rfl⟩ | ⟨he, RA, rn, rc, rfl⟩
        · have HX2 := Lib.hid hx2
          clear hx2
          go_wp2_with fail
          refine And.intro (by first | exact fun _ => (HSS.out _ HQ4.out) | exact (HSS.out _ HQ4.out)) ?_
          have HQ5 : Hid (Below wb.heap.size wb (w4.alloc (.cells #[.int .i64 X.1] 3))) := Lib.hid (HQ4.out.alloc HQ4.out.size _)
          have HG5 : Hid (Blk (w4.alloc (.cells #[.int .i64 X.1] 3)) w4.heap.size 3 #[.int .i64 X.1]) := Lib.hid (Blk.new _ _ _)
          refine wpAnyT_next (i := 9) (by kernel_rfl) rfl ?_
          go_wp2_with fail
          refine And.intro (by first | exact fun _ => (HSS.out _ HQ5.out) | exact (HSS.out _ HQ5.out)) ?_
          generalize w4.alloc (.cells #[.int .i64 X.1] 3) = w5 at *
          generalize w4.heap.size = g5 at *
          have hOW5 : Own w1.heap.size 3 1 ienc w5 ⟨B, d, ul⟩ := HW.out.below (HK0.out.trans (HQ5.out.mono HK0.out.size))
          have hsz5 : w1.heap.size ≤ w5.heap.size := Nat.le_trans hhe (Nat.le_trans HK0.out.size HQ5.out.size)
          refine wpAnyT_next (i := 10) (by kernel_rfl) rfl ?_
          refine wpl_append_sl _ rfl (.tmp 51) (.tmp 60) _ rfl Tryz.underlying60 infoInt (by omega) ienc_k ienc_one ⟨B, d, ul⟩ ⟨some ⟨g5, 0, none⟩, 1, [X.1]⟩ rfl rfl hOW5 (rd_one HG5.out) (by simp [maxLen]; omega) (by simp; omega) hsz5 ?_
          intro A6 c6 w6 hown6 hg6 _
          have hrow := own_row_ge HW.out
          have hn1 : some w.heap.size ≠ (Value.slice B ul.length d).ownBlock := fun hc => by have := hrow _ hc.symm; have := HA.out.lt; omega
          have hn2 : some wr.heap.size ≠ (Value.slice B ul.length d).ownBlock := fun hc => by have := hrow _ hc.symm; omega
          have hs5 := HSS.out _ HQ5.out
          have hs6 : w6.cell? ⟨w.heap.size, 0, none⟩ = some (.slice L.A L.l.length L.c) ∧ w6.cell? ⟨w.heap.size, 1, none⟩ = some (.slice U.A U.l.length U.c) ∧ w6.cell? ⟨wr.heap.size, 0, none⟩ = some (.int .i64 xo) ∧ w6.cell? ⟨wr.heap.size, 1, none⟩ = some (.int .i64 xm) ∧ w6.cell? ⟨wr.heap.size, 2, none⟩ = some (.int .i64 xu) ∧ w6.cell? ⟨wr.heap.size, 3, none⟩ = some (.string xs) ∧ w6.cell? ⟨wr.heap.size, 4, none⟩ = some (.slice xA xl.length xc) := ⟨cell_grown hs5.1 hg6 hn1, cell_grown hs5.2.1 hg6 hn1, cell_grown hs5.2.2.1 hg6 hn2, cell_grown hs5.2.2.2.1 hg6 hn2, cell_grown hs5.2.2.2.2.1 hg6 hn2, cell_grown hs5.2.2.2.2.2.1 hg6 hn2, cell_grown hs5.2.2.2.2.2.2 hg6 hn2⟩
          have HS6 := Lib.hid hs6
          have HB6 : Hid (Below w1.heap.size w1 w6) := Lib.hid ((hbel.trans ((HK0.out.trans (HQ5.out.mono HK0.out.size)).mono hhe)).grown hg6 hsz5 (fun k hk => (hrow k hk).1))
          have HO6 := Lib.hid hown6
          have HSQ := Lib.hid (seq_ok (f := unU L.l U.l k) HT.out HG.out (by rw [HXV.out]; exact HX2.out))
          rw [HXV.out] at HSQ
          clear hs5 hs6 hg6 hown6 hOW5 hrow hn1 hn2 hnb
          refine And.intro (fun _ => HS6.out) ?_
          have hHeld := HS6.out
          refine qtq 11 ?_
          simp only [qsa, qsb, qsc]
          refine wpAnyT_done (by kernel_rfl) ?_ _
          clear hHeld HS6
          go_wp2_with fail
          go_roundw
          case measure => simp [intOf]; omega
          case rel => exact ⟨.slice A6 (ul.length + 1) c6, _, _, .int .i64 ((j : Int) + 1), ⟨j + 1, by omega, A6, c6, ul ++ [X.1], by rw [List.length_append, HN.out]; rfl, by simp, by simp, HO6, HB6.out, Lib.hid (by rw [← List.map_take]; exact HSQ.out)⟩, rfl, rfl, rfl, rfl⟩
        · have HEX := Lib.hid he
          clear he
          go_wp2_with fail
          have hsn := seq_no (f := unU L.l U.l k) HT.out HG.out (by rw [HXV.out]; exact HEX.out)
          rw [HXV.out] at hsn
          have hv := HV.out
          rw [unU_op h0 h1 h2 h3, if_pos (by rw [hsn]; exact HEX.out), hsn] at hv
          refine ⟨rfl, .inr ⟨by rw [← hv]; exact HEX.out, RA, rn, rc, by rw [← hv]⟩, HB.out.trans ((hbel.trans ((HK0.out.trans (HQ4.out.mono HK0.out.size)).mono hhe)).mono HB.out.size)⟩
    · have hkl : l.take j = l := List.take_of_length_le (by omega)
      have hsq := HG.out
      rw [hkl] at hsq
      have hv := HV.out
      rw [unU_op h0 h1 h2 h3, hsq] at hv
      simp only [ne_eq, not_true_eq_false, if_false] at hv
      have HJ := Lib.hid (un_joined o ⟨B, d, ul⟩ wr ((HW.out.rd ienc_k).mono (fun b hb => hb.2)) (fun h => by have := H15.out h; simp only; omega))
      have HVV := Lib.hid hv
      obtain ⟨y0, y1, y2, y3, y4, yf, yz⟩ := (HC.out.later hbel).b5
      obtain ⟨J, hJ⟩ : ∃ J, joinU o ul = J := ⟨_, rfl⟩
      simp only at HJ
      rw [hJ] at HJ HVV
      clear hv hsq hkl HG hJ hul
      go_wp2_with fail
      refine HJ.out.mono ?_
      rintro e w3 ⟨rfl, hb3⟩
      have hB3 : Below w.heap.size w w3 := HB.out.trans ((hbel.trans (hb3.mono hhe)).mono HB.out.size)
      by_cases hj1 : J = -1
      · have hv2 := HVV.out
        rw [if_pos hj1] at hv2
        have HV2 := Lib.hid hv2
        clear hv2 HVV
        subst hj1
        go_wp2_with fail
        refine (clone_int p _ (HP.out.later hB3) (by omega)).mono ?_
        rintro e w4 ⟨cA, cc, rfl, hown, hb4⟩
        have hB4 := hB3.trans (hb4.mono hB3.size)
        clear hown hb4
        simp only
        go_wp2_with fail
        exact ⟨rfl, by rw [← HV2.out]; exact .inr ⟨by decide, cA, _, cc, rfl⟩, hB4⟩
      · have hv2 := HVV.out
        rw [if_neg hj1] at hv2
        have HV2 := Lib.hid hv2
        clear hv2 HVV
        go_wp2_with fail
        go_ret
        exact ⟨by rw [← HV2.out]; exact .inl ⟨rfl, rfl⟩, hB3⟩
end Go.Proofs.YtcgocdhhneckhaaGreat
