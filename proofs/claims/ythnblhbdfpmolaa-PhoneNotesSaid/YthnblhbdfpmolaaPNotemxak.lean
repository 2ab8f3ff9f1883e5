/- Walks of package phone: copied, copies. -/
import Derived.Test.YthnblhbdfpmolaaPNotemxaj
namespace Go.Proofs.Ythnblhbdfpmolaa
open Go.RowKit
def Apart (A B : Option Addr) : Prop := ∀ g g', A = some ⟨g, 0, none⟩ → B = some ⟨g', 0, none⟩ → g ≠ g'
theorem Own.lo {α : Type} {base : Nat} {e : TypeId} {k : Nat} {enc : α → List Value} {w : World} {s : Sl α} (h : Own base e k enc w s) : ∀ g, s.A = some ⟨g, 0, none⟩ → base ≤ g := fun g hA => by
  rcases h.form with ⟨h0, _⟩ | ⟨g', h1, h2, _⟩
  · rw [h0] at hA; cases hA
  · rw [h1] at hA; injection hA with hA; injection hA with hA; omega
theorem apart_of {A B : Option Addr} {a b c d : Nat} (ha : ∀ g, A = some ⟨g, 0, none⟩ → a ≤ g) (hb : ∀ g, A = some ⟨g, 0, none⟩ → g < b) (hc : ∀ g, B = some ⟨g, 0, none⟩ → c ≤ g) (hd : ∀ g, B = some ⟨g, 0, none⟩ → g < d) (h : b ≤ c ∨ d ≤ a) : Apart A B := fun g g' h1 h2 => by
  have := ha g h1; have := hb g h1; have := hc g' h2; have := hd g' h2; omega
structure OwnPhone (base m : Nat) (w : World) (p : Phone) : Prop where
  H : Own base 62 3 Hold.enc w p.H
  N : Own base 61 5 Note.enc w p.N
  S : Own base 3 1 ienc w p.S
  HN : Apart p.H.A p.N.A
  HS : Apart p.H.A p.S.A
  NS : Apart p.N.A p.S.A
  bH : ∀ g, p.H.A = some ⟨g, 0, none⟩ → g < m
  bN : ∀ g, p.N.A = some ⟨g, 0, none⟩ → g < m
  bS : ∀ g, p.S.A = some ⟨g, 0, none⟩ → g < m
  bm : m ≤ w.heap.size
  mb : base ≤ m
  af : ∀ n, n ∈ p.N.l → Rd (fun b => m ≤ b ∧ b < w.heap.size) 1 ienc w n.af
theorem below_via {a w w' : World} (hb : Below a.heap.size a w') (h1 : Below w.heap.size w a) : Below w.heap.size w w' := Below.trans h1 (hb.mono h1.size)
theorem own_via {α : Type} {base : Nat} {e : TypeId} {k : Nat} {enc : α → List Value} {a w' : World} {s : Sl α} (hb : Below a.heap.size a w') (h : Own base e k enc a s) : Own base e k enc w' s := h.below hb
theorem keep_cell {a w' : World} {p : Addr} {v : Value} (hb : Below a.heap.size a w') (h : a.cell? p = some v) : w'.cell? p = some v := (hb.cell (World.block_lt_of_cell? a p h)).trans h
theorem keep_frozen {a w' : World} {p : Addr} {v : Value} (hb : Below a.heap.size a w') (h : a.cell? p = some v) (hf : a.frozen? p = false) : w'.frozen? p = false := (hb.frozen (World.block_lt_of_cell? a p h)).trans hf
theorem Own.atk {α : Type} {base : Nat} {e : TypeId} {k : Nat} {enc : α → List Value} {w : World} {s : Sl α} (hk : ∀ x, (enc x).length = k) (h : Own base e k enc w s) {i : Nat} {x : α} (hx : s.l[i]? = some x) :
    ∃ g, s.A = some ⟨g, 0, none⟩ ∧ base ≤ g ∧ g < w.heap.size ∧ Cells w g (i * k) (enc x) ∧ ∀ j, w.frozen? ⟨g, j, none⟩ = false := by
  obtain ⟨b, o, hA, hF, hc⟩ := (h.rd hk).2.2.2 i x hx
  rcases h.form with ⟨h0, _⟩ | ⟨g, h0, h1, h2, _⟩
  · rw [h0] at hA; cases hA
  · rw [h0] at hA; injection hA with hA; injection hA with hA1 hA2
    subst hA1; subst hA2
    rw [Nat.zero_add] at hc
    exact ⟨g, h0, h1, h2, hc, fun j => h.frozen h0 j⟩
theorem map_set_same {α β : Type} {f : α → β} {l : List α} {i : Nat} {x y : α} (hx : l[i]? = some x) (h : f y = f x) : (l.set i y).map f = l.map f := by
  apply List.ext_getElem?
  intro j
  simp only [List.getElem?_map, List.getElem?_set]
  by_cases hij : i = j
  · subst hij
    have hlt := (List.getElem?_eq_some_iff.1 hx).1
    simp [hlt, h, hx]
    have := (List.getElem?_eq_some_iff.1 hx).2
    rw [this]
  · simp [hij]
theorem Rd.setfar {α : Type} {F : Nat → Prop} {k : Nat} {enc : α → List Value} {w : World} {s : Sl α} (h : Rd F k enc w s) {p : Addr} (hp : ¬ F p.block) (u : Value) : Rd F k enc (w.setCell p u) s :=
  h.keep fun b hb => Below.heap_setCell w p u b (fun e => hp (e ▸ hb))
theorem Rd.setfarr {α : Type} {F : Nat → Prop} {k : Nat} {enc : α → List Value} {w : World} {s : Sl α} {p : Addr} {u : Value} (hp : ¬ F p.block) (h : Rd F k enc w s) : Rd F k enc (w.setCell p u) s := h.setfar hp u
set_option maxHeartbeats 2000000 in
theorem phone_copied (p : Phone) (w : World) (hr : RdPhone (· < w.heap.size) w p) (hbH : p.H.l.length * 24 ≤ 140737488355328) (hbN : p.N.l.length * 64 ≤ 140737488355328) (hbS : p.S.l.length * 8 ≤ 140737488355328)
    (hba : ∀ n, n ∈ p.N.l → n.af.l.length * 8 ≤ 140737488355328) :
    Calls Try.prog 62 #[p.v] w fun e w' => ∃ p' : Phone, e = .returned p'.v ∧ p'.d = p.d ∧ (∃ m, OwnPhone w.heap.size m w' p') ∧ Below w.heap.size w w' := by
  obtain ⟨id, cut, H, N, S⟩ := p
  have HR := Lib.hid hr
  have HBA := Lib.hid hba
  clear hr hba
  simp only [Phone.v]
  simp only at hbH hbN hbS
  go_enter Try.func62, Try.ntmps62
  go_wp2_with fail
  refine wp_region_T (fun w' => w'.cell? ⟨w.heap.size, 2, none⟩ = some (.slice H.A H.l.length H.c) ∧ w'.cell? ⟨w.heap.size, 3, none⟩ = some (.slice N.A N.l.length N.c) ∧ w'.cell? ⟨w.heap.size, 4, none⟩ = some (.slice S.A S.l.length S.c)) (fun i => 10 ≤ i) (by kernel_rfl) (by go_keep) (fun hHeld => ?_)
  refine wpAnyT_take (i := 0) (v := ?_) rfl (by kernel_rfl) (by kernel_rfl) (by kernel_rfl) (by kernel_rfl) (fun _ _ _ h => h) (Or.inl ⟨by rfl, ?_⟩) (by first | assumption | trivial) ?_
  rotate_left
  · (intro w hSw; (try dsimp only at hSw); go_simp) <;> (with_reducible rfl)
  try simp only [Act.put, List.setIfInBounds_toArray, List.set_cons_zero, List.set_cons_succ]
  refine wpAnyT_take (i := 1) (v := ?_) rfl (by kernel_rfl) (by kernel_rfl) (by kernel_rfl) (by kernel_rfl) (fun _ _ _ h => h) (Or.inl ⟨by rfl, ?_⟩) (by first | assumption | trivial) ?_
  rotate_left
  · (intro w hSw; (try dsimp only at hSw); go_simp) <;> (with_reducible rfl)
  try simp only [Act.put, List.setIfInBounds_toArray, List.set_cons_zero, List.set_cons_succ]
  refine wpAnyT_take (i := 3) (v := ?_) rfl (by kernel_rfl) (by kernel_rfl) (by kernel_rfl) (by kernel_rfl) (fun _ _ _ h => h) (Or.inl ⟨by rfl, ?_⟩) (by first | assumption | trivial) ?_
  rotate_left
  · (intro w hSw; (try dsimp only at hSw); go_simp) <;> (with_reducible rfl)
  try simp only [Act.put, List.setIfInBounds_toArray, List.set_cons_zero, List.set_cons_succ]
  refine wpAnyT_take (i := 4) (v := ?_) rfl (by kernel_rfl) (by kernel_rfl) (by kernel_rfl) (by kernel_rfl) (fun _ _ _ h => h) (Or.inl ⟨by rfl, ?_⟩) (by first | assumption | trivial) ?_
  rotate_left
  · (intro w hSw; (try dsimp only at hSw); go_simp) <;> (with_reducible rfl)
  try simp only [Act.put, List.setIfInBounds_toArray, List.set_cons_zero, List.set_cons_succ]
  refine wpAnyT_take (i := 6) (v := ?_) rfl (by kernel_rfl) (by kernel_rfl) (by kernel_rfl) (by kernel_rfl) (fun _ _ _ h => h) (Or.inl ⟨by rfl, ?_⟩) (by first | assumption | trivial) ?_
  rotate_left
  · (intro w hSw; (try dsimp only at hSw); go_simp) <;> (with_reducible rfl)
  try simp only [Act.put, List.setIfInBounds_toArray, List.set_cons_zero, List.set_cons_succ]
  refine wpAnyT_take (i := 7) (v := ?_) rfl (by kernel_rfl) (by kernel_rfl) (by kernel_rfl) (by kernel_rfl) (fun _ _ _ h => h) (Or.inl ⟨by rfl, ?_⟩) (by first | assumption | trivial) ?_
  rotate_left
  · (intro w hSw; (try dsimp only at hSw); go_simp) <;> (with_reducible rfl)
  try simp only [Act.put, List.setIfInBounds_toArray, List.set_cons_zero, List.set_cons_succ]
  clear hHeld
  refine wpAnyT_next (i := 2) (by kernel_rfl) rfl ?_
  go_wp2_with fail
  refine (clone_hold H _ (HR.out.1.below' qbv (Nat.le_refl _)) hbH).mono ?_
  rintro e wH ⟨HA, Hc, rfl, hownH, hbbH⟩
  have K_a : Blk _ (w.heap.size) 33 #[.int .i64 id, .bool cut, .slice H.A H.l.length H.c, .slice N.A N.l.length N.c, .slice S.A S.l.length S.c] := qkb hbbH
  obtain ⟨a0, a1, a2, a3, a4, af, az⟩ := Blk.b5 K_a
  have B_a := Lib.hid K_a
  clear K_a
  have K_b : Blk _ (w.heap.size + 1) 33 #[.int .i64 0, .bool false, .slice none 0 0, .slice none 0 0, .slice none 0 0] := qkb hbbH
  obtain ⟨b0, b1, b2, b3, b4, bf, bz⟩ := Blk.b5 K_b
  have B_b := Lib.hid K_b
  clear K_b
  have hB1 : Below w.heap.size w wH := qbv
  have zH := hbbH.size
  simp only [World.alloc, World.drew, Array.size_push] at zH
  have HOH := Lib.hid (hownH.mono (base' := w.heap.size + 2) (by simp [World.drew]))
  have HBH := Lib.hid hownH.bound
  clear hownH hbbH
  go_wp2_with fail
  have hHeld := And.intro a2 (And.intro a3 a4)
  refine ⟨fun _ => hHeld, ?_⟩
  refine wpAnyT_take (i := 9) (v := ?_) rfl (by kernel_rfl) (by kernel_rfl) (by kernel_rfl) (by kernel_rfl) (fun _ _ _ h => h) (Or.inl ⟨by rfl, ?_⟩) (by first | assumption | trivial) ?_
  rotate_left
  · (intro w hSw; (try dsimp only at hSw); go_simp) <;> (with_reducible rfl)
  try simp only [Act.put, List.setIfInBounds_toArray, List.set_cons_zero, List.set_cons_succ]
  clear hHeld
  refine wpAnyT_next (i := 5) (by kernel_rfl) rfl ?_
  go_wp2_with fail
  refine (clone_note N _ (HR.out.2.1.1.below' hB1 (Nat.le_refl _)) hbN).mono ?_
  rintro e wN ⟨NA, Nc, rfl, hownN, hbbN⟩
  clear a0 a1 a2 a3 a4 af b0 b1 b2 b3 b4 bf
  have K_a : Blk _ (w.heap.size) 33 #[.int .i64 id, .bool cut, .slice H.A H.l.length H.c, .slice N.A N.l.length N.c, .slice S.A S.l.length S.c] := qkc B_a hbbN
  obtain ⟨a0, a1, a2, a3, a4, af, az⟩ := Blk.b5 K_a
  have B_a := Lib.hid K_a
  clear K_a
  have K_b : Blk _ (w.heap.size + 1) 33 #[.int .i64 0, .bool false, .slice none 0 0, .slice none 0 0, .slice none 0 0] := qkc B_b hbbN
  obtain ⟨b0, b1, b2, b3, b4, bf, bz⟩ := Blk.b5 K_b
  have B_b := Lib.hid K_b
  clear K_b
  have hB2 : Below w.heap.size w wN := qbv
  have zN := hbbN.size
  have HON := Lib.hid hownN
  have HBN := Lib.hid hownN.bound
  have HOH := Lib.hid (HOH.out.below hbbN)
  clear hownN hbbN
  go_wp2_with fail
  have hHeld := And.intro a2 (And.intro a3 a4)
  refine ⟨fun _ => hHeld, ?_⟩
  clear hHeld
  refine wpAnyT_next (i := 8) (by kernel_rfl) rfl ?_
  go_wp2_with fail
  refine (clone_int S _ (HR.out.2.2.below' hB2 (Nat.le_refl _)) hbS).mono ?_
  rintro e wS ⟨SA, Sc, rfl, hownS, hbbS⟩
  clear a0 a1 a2 a3 a4 af b0 b1 b2 b3 b4 bf
  have K_a : Blk _ (w.heap.size) 33 #[.int .i64 id, .bool cut, .slice H.A H.l.length H.c, .slice N.A N.l.length N.c, .slice S.A S.l.length S.c] := qkc B_a hbbS
  obtain ⟨a0, a1, a2, a3, a4, af, az⟩ := Blk.b5 K_a
  have B_a := Lib.hid K_a
  clear K_a
  have K_b : Blk _ (w.heap.size + 1) 33 #[.int .i64 0, .bool false, .slice none 0 0, .slice none 0 0, .slice none 0 0] := qkc B_b hbbS
  obtain ⟨b0, b1, b2, b3, b4, bf, bz⟩ := Blk.b5 K_b
  have B_b := Lib.hid K_b
  clear K_b
  have hB3 : Below w.heap.size w wS := qbv
  have zS := hbbS.size
  have HOS := Lib.hid hownS
  have HBS := Lib.hid hownS.bound
  have HON := Lib.hid (HON.out.below hbbS)
  have HOH := Lib.hid (HOH.out.below hbbS)
  clear hownS hbbS
  go_wp2_with fail
  have hHeld := And.intro a2 (And.intro a3 a4)
  refine ⟨fun _ => hHeld, ?_⟩
  clear hHeld
  refine wpAnyT_next (i := 10) (by kernel_rfl) rfl ?_
  go_wp2_with fail
  refine ⟨fun h => by simp at h, ?_⟩
  refine wpAnyT_next (i := 11) (by kernel_rfl) rfl ?_
  go_wp2_with fail
  refine ⟨fun h => by simp at h, ?_⟩
  refine wpAnyT_next (i := 12) (by kernel_rfl) rfl ?_
  go_wp2_with fail
  refine ⟨fun h => by simp at h, ?_⟩
  refine wpAnyT_next (i := 13) (by kernel_rfl) rfl ?_
  go_wp2_with fail
  refine ⟨fun h => by simp at h, ?_⟩
  refine wpAnyT_next (i := 14) (by kernel_rfl) rfl ?_
  go_wp2_with fail
  refine ⟨fun h => by simp at h, ?_⟩
  refine wpAnyT_done (by kernel_rfl) ?_ _
  go_wp2_with fail
  have apHN : Apart HA NA := apart_of HOH.out.lo HBH.out HON.out.lo HBN.out (Or.inl (by omega))
  have apHS : Apart HA SA := apart_of HOH.out.lo HBH.out HOS.out.lo HBS.out (Or.inl (by omega))
  have apNS : Apart NA SA := apart_of HON.out.lo HBN.out HOS.out.lo HBS.out (Or.inl (by omega))
  have HAP := Lib.hid (And.intro apHN (And.intro apHS apNS))
  have bH : ∀ g, HA = some ⟨g, 0, none⟩ → g < wS.heap.size := fun g h => by have := HBH.out g h; omega
  have bN : ∀ g, NA = some ⟨g, 0, none⟩ → g < wS.heap.size := fun g h => by have := HBN.out g h; omega
  have bS : ∀ g, SA = some ⟨g, 0, none⟩ → g < wS.heap.size := HBS.out
  have HBB := Lib.hid (And.intro bH (And.intro bN bS))
  have HON := Lib.hid (HON.out.mono (base' := w.heap.size + 2) (by omega))
  have HOS := Lib.hid (HOS.out.mono (base' := w.heap.size + 2) (by omega))
  clear apHN apHS apNS bH bN bS HBH HBN HBS
  have HR2 := Lib.hid HR.out.2.1.2
  go_loopw [19] (fun i wr => ∃ (k : Nat) (NL : List Note), k ≤ N.l.length ∧ NL.length = N.l.length ∧ i = .int .i64 k ∧ NL.map Note.d = N.l.map Note.d ∧
    Blk wr w.heap.size 33 #[.int .i64 id, .bool cut, .slice HA H.l.length Hc, .slice NA N.l.length Nc, .slice SA S.l.length Sc] ∧ Blk wr (w.heap.size + 1) 33 #[.int .i64 0, .bool false, .slice none 0 0, .slice none 0 0, .slice none 0 0] ∧
    Own (w.heap.size + 2) 62 3 Hold.enc wr ⟨HA, Hc, H.l⟩ ∧ Own (w.heap.size + 2) 61 5 Note.enc wr ⟨NA, Nc, NL⟩ ∧ Own (w.heap.size + 2) 3 1 ienc wr ⟨SA, Sc, S.l⟩ ∧
    Below w.heap.size w wr ∧ wS.heap.size ≤ wr.heap.size ∧ (∀ i x, NL[i]? = some x → (i < k → Rd (fun b => wS.heap.size ≤ b ∧ b < wr.heap.size) 1 ienc wr x.af) ∧ (k ≤ i → N.l[i]? = some x))) (fun i _ => N.l.length - (intOf i).toNat)
  case atStart =>
    refine ⟨0, N.l, by omega, rfl, rfl, rfl, ?_, ?_, (by repeat (first | (with_reducible exact HOH.out) | ((with_reducible refine Own.farr ?_ ?_); focus (first | (simp; done) | (simp; omega) | omega)) | (with_reducible refine Own.alloc ?_ _) | (with_reducible refine Own.drew ?_) | (with_reducible refine Own.drewN ?_ _) | ((with_reducible apply own_via); focus (with_reducible assumption)))), (by repeat (first | (with_reducible exact HON.out) | ((with_reducible refine Own.farr ?_ ?_); focus (first | (simp; done) | (simp; omega) | omega)) | (with_reducible refine Own.alloc ?_ _) | (with_reducible refine Own.drew ?_) | (with_reducible refine Own.drewN ?_ _) | ((with_reducible apply own_via); focus (with_reducible assumption)))), (by repeat (first | (with_reducible exact HOS.out) | ((with_reducible refine Own.farr ?_ ?_); focus (first | (simp; done) | (simp; omega) | omega)) | (with_reducible refine Own.alloc ?_ _) | (with_reducible refine Own.drew ?_) | (with_reducible refine Own.drewN ?_ _) | ((with_reducible apply own_via); focus (with_reducible assumption)))), qbv, by simp, fun i x hx => ⟨fun h => absurd h (Nat.not_lt_zero _), fun _ => hx⟩⟩
    · have := (((B_a.out.set_ 2 (.slice HA H.l.length Hc)).set_ 3 (.slice NA N.l.length Nc)).set_ 4 (.slice SA S.l.length Sc))
      simpa using this
    · exact Blk.farr (by simp) (Blk.farr (by simp) (Blk.farr (by simp) B_b.out))
  case round =>
    clear a0 a1 a2 a3 a4 af b0 b1 b2 b3 b4 bf
    obtain ⟨k, NL, hk, hlen, rfl, hmap, hbx, hby, hOH, hON, hOS, hbel, hsz, hall⟩ := hrel
    obtain ⟨a0, a1, a2, a3, a4, af, az'⟩ := hbx.b5
    obtain ⟨b0, b1, b2, b3, b4, bf, bz'⟩ := hby.b5
    have B_a := Lib.hid hbx
    have B_b := Lib.hid hby
    have HOH := Lib.hid hOH
    have HON := Lib.hid hON
    have HOS := Lib.hid hOS
    have HALL := Lib.hid hall
    have HMAP := Lib.hid hmap
    clear hbx hby hOH hON hOS hall hmap
    have hhe : w.heap.size ≤ wr.heap.size := hbel.size
    by_cases hlt : k < N.l.length
    · have hk' : NL[k]? = some NL[k] := List.getElem?_eq_getElem (by omega)
      have hy := (HALL.out k _ hk').2 (Nat.le_refl _)
      have hmem := List.mem_of_getElem? hy
      generalize NL[k] = y at hk' hy hmem
      obtain ⟨yd, ys, yaf, yt, yx⟩ := y
      have HY := Lib.hid hk'
      have HRY := Lib.hid (HR2.out _ hmem)
      have hba := HBA.out _ hmem
      obtain ⟨g, hA, hg1, hg2, hcl, gf⟩ := HON.out.atk Note.k hk'
      simp only at hA hba
      subst hA
      have hg3 := HBB.out.2.1 g rfl
      obtain ⟨g0, g1, g2, g3, g4⟩ := Cells.c5 hcl
      clear hk' hy hmem hcl
      go_wp2_with fail
      refine wp_region_T (fun w' => w'.cell? ⟨w.heap.size, 3, none⟩ = some (.slice (some ⟨g, 0, none⟩) N.l.length Nc) ∧ w'.cell? ⟨g, k * 5 + 2, none⟩ = some (.slice yaf.A yaf.l.length yaf.c)) (fun i => 12 ≤ i) (by kernel_rfl) (by go_keep) (fun hHeld => ?_)
      refine wpAnyT_take (i := 0) (v := ?_) rfl (by kernel_rfl) (by kernel_rfl) (by kernel_rfl) (by kernel_rfl) (fun _ _ _ h => h) (Or.inl ⟨by rfl, ?_⟩) (by first | assumption | trivial) ?_
      rotate_left
      · (intro w hSw; (try dsimp only at hSw); go_simp) <;> (with_reducible rfl)
      try simp only [Act.put, List.setIfInBounds_toArray, List.set_cons_zero, List.set_cons_succ]
      refine wpAnyT_take (i := 1) (v := ?_) rfl (by kernel_rfl) (by kernel_rfl) (by kernel_rfl) (by kernel_rfl) (fun _ _ _ h => h) (Or.inl ⟨by rfl, ?_⟩) (by first | assumption | trivial) ?_
      rotate_left
      · (intro w hSw; (try dsimp only at hSw); go_simp) <;> (with_reducible rfl)
      try simp only [Act.put, List.setIfInBounds_toArray, List.set_cons_zero, List.set_cons_succ]
      refine wpAnyT_take (i := 2) (v := ?_) rfl (by kernel_rfl) (by kernel_rfl) (by kernel_rfl) (by kernel_rfl) (fun _ _ _ h => h) (Or.inl ⟨by rfl, ?_⟩) (by first | assumption | trivial) ?_
      rotate_left
      · (intro w hSw; (try dsimp only at hSw); go_simp) <;> (with_reducible rfl)
      try simp only [Act.put, List.setIfInBounds_toArray, List.set_cons_zero, List.set_cons_succ]
      refine wpAnyT_take (i := 3) (v := ?_) rfl (by kernel_rfl) (by kernel_rfl) (by kernel_rfl) (by kernel_rfl) (fun _ _ _ h => h) (Or.inl ⟨by rfl, ?_⟩) (by first | assumption | trivial) ?_
      rotate_left
      · (intro w hSw; (try dsimp only at hSw); go_simp) <;> (with_reducible rfl)
      try simp only [Act.put, List.setIfInBounds_toArray, List.set_cons_zero, List.set_cons_succ]
      refine wpAnyT_take (i := 4) (v := ?_) rfl (by kernel_rfl) (by kernel_rfl) (by kernel_rfl) (by kernel_rfl) (fun _ _ _ h => h) (Or.inl ⟨by rfl, ?_⟩) (by first | assumption | trivial) ?_
      rotate_left
      · (intro w hSw; (try dsimp only at hSw); go_simp) <;> (with_reducible rfl)
      try simp only [Act.put, List.setIfInBounds_toArray, List.set_cons_zero, List.set_cons_succ]
      refine wpAnyT_take (i := 5) (v := ?_) rfl (by kernel_rfl) (by kernel_rfl) (by kernel_rfl) (by kernel_rfl) (fun _ _ _ h => h) (Or.inl ⟨by rfl, ?_⟩) (by first | assumption | trivial) ?_
      rotate_left
      · (intro w hSw; (try dsimp only at hSw); go_simp) <;> (with_reducible rfl)
      try simp only [Act.put, List.setIfInBounds_toArray, List.set_cons_zero, List.set_cons_succ]
      refine wpAnyT_take (i := 6) (v := ?_) rfl (by kernel_rfl) (by kernel_rfl) (by kernel_rfl) (by kernel_rfl) (fun _ _ _ h => h) (Or.inl ⟨by rfl, ?_⟩) (by first | assumption | trivial) ?_
      rotate_left
      · (intro w hSw; (try dsimp only at hSw); go_simp) <;> (with_reducible rfl)
      try simp only [Act.put, List.setIfInBounds_toArray, List.set_cons_zero, List.set_cons_succ]
      refine wpAnyT_take (i := 7) (v := ?_) rfl (by kernel_rfl) (by kernel_rfl) (by kernel_rfl) (by kernel_rfl) (fun _ _ _ h => h) (Or.inl ⟨by rfl, ?_⟩) (by first | assumption | trivial) ?_
      rotate_left
      · (intro w hSw; (try dsimp only at hSw); go_simp) <;> (with_reducible rfl)
      try simp only [Act.put, List.setIfInBounds_toArray, List.set_cons_zero, List.set_cons_succ]
      refine wpAnyT_take (i := 8) (v := ?_) rfl (by kernel_rfl) (by kernel_rfl) (by kernel_rfl) (by kernel_rfl) (fun _ _ _ h => h) (Or.inl ⟨by rfl, ?_⟩) (by first | assumption | trivial) ?_
      rotate_left
      · (intro w hSw; (try dsimp only at hSw); go_simp) <;> (with_reducible rfl)
      try simp only [Act.put, List.setIfInBounds_toArray, List.set_cons_zero, List.set_cons_succ]
      clear hHeld
      refine wpAnyT_next (i := 9) (by kernel_rfl) rfl ?_
      go_wp2_with fail
      refine (clone_int yaf _ (HRY.out.below' qbv (Nat.le_refl _)) hba).mono ?_
      rintro e w1 ⟨A2, c2, rfl, hown2, hb2⟩
      have hb2' := hb2
      clear a0 a1 a2 a3 a4 af b0 b1 b2 b3 b4 bf
      have K_a : Blk _ (w.heap.size) 33 #[.int .i64 id, .bool cut, .slice HA H.l.length Hc, .slice (some ⟨g, 0, none⟩) N.l.length Nc, .slice SA S.l.length Sc] := qkc B_a hb2
      obtain ⟨a0, a1, a2, a3, a4, af, az⟩ := Blk.b5 K_a
      have B_a := Lib.hid K_a
      clear K_a
      have hbel1 : Below w.heap.size w w1 := qbv
      have G2 := keep_cell hb2 (show (World.drew _).cell? ⟨g, k * 5 + 2, none⟩ = _ from g2)
      have GF := keep_frozen hb2 (show (World.drew _).cell? ⟨g, k * 5 + 2, none⟩ = _ from g2) (show (World.drew _).frozen? ⟨g, k * 5 + 2, none⟩ = false from gf _)
      clear g0 g1 g2 g3 g4 gf
      have HON1 := Lib.hid (((HON.out.drew).below hb2).set Note.k rfl HY.out (j := 2) (y := ⟨yd, ys, ⟨A2, c2, yaf.l⟩, yt, yx⟩) (u := .slice A2 yaf.l.length c2) (by omega) rfl)
      have HOH1 := Lib.hid (((HOH.out.drew).below hb2).other (a := ⟨g, k * 5 + 2, none⟩) (fun g' h => HAP.out.1 g' g h rfl) (.slice A2 yaf.l.length c2))
      have HOS1 := Lib.hid (((HOS.out.drew).below hb2).other (a := ⟨g, k * 5 + 2, none⟩) (fun g' h => Ne.symm (HAP.out.2.2 g g' rfl h)) (.slice A2 yaf.l.length c2))
      have z2 : wr.heap.size ≤ w1.heap.size := hb2.size
      have HBX1 := Lib.hid (B_a.out.far (p := ⟨g, k * 5 + 2, none⟩) (by simp; omega) (.slice A2 yaf.l.length c2))
      have HBY1 := Lib.hid ((B_b.out.drew.later hb2).far (p := ⟨g, k * 5 + 2, none⟩) (by simp; omega) (.slice A2 yaf.l.length c2))
      have HALL1 : Hid (∀ i x, (NL.set k ⟨yd, ys, ⟨A2, c2, yaf.l⟩, yt, yx⟩)[i]? = some x → (i < k + 1 → Rd (fun b => wS.heap.size ≤ b ∧ b < (w1.setCell ⟨g, k * 5 + 2, none⟩ (.slice A2 yaf.l.length c2)).heap.size) 1 ienc (w1.setCell ⟨g, k * 5 + 2, none⟩ (.slice A2 yaf.l.length c2)) x.af) ∧ (k + 1 ≤ i → N.l[i]? = some x)) := by
        refine Lib.hid fun i x hx => ?_
        rw [List.getElem?_set] at hx
        by_cases hik : k = i
        · subst hik
          rw [if_pos rfl, if_pos (by omega)] at hx
          injection hx with hx
          subst hx
          refine ⟨fun _ => ?_, fun h => by omega⟩
          have := (hown2.rd ienc_k).mono (G := fun b => wS.heap.size ≤ b ∧ b < w1.heap.size) (fun b hb => ⟨Nat.le_trans hsz hb.1, hb.2⟩)
          have := this.setfar (p := ⟨g, k * 5 + 2, none⟩) (by simp; omega) (.slice A2 yaf.l.length c2)
          exact this.mono (fun b hb => ⟨hb.1, by simpa using hb.2⟩)
        · rw [if_neg hik] at hx
          have := HALL.out i x hx
          refine ⟨fun h => ?_, fun h => this.2 (by omega)⟩
          have := (this.1 (by omega)).to_below (B := wr.heap.size) (fun b hb => hb.2) (show Below wr.heap.size wr w1 from Below.trans (Below.drew (Below.refl _ _)) hb2)
          have := this.setfar (p := ⟨g, k * 5 + 2, none⟩) (by simp; omega) (.slice A2 yaf.l.length c2)
          exact this.mono (fun b hb => ⟨hb.1, by have := hb.2; simp; omega⟩)
      have HMAP1 := Lib.hid ((map_set_same (f := Note.d) (y := ⟨yd, ys, ⟨A2, c2, yaf.l⟩, yt, yx⟩) HY.out rfl).trans HMAP.out)
      clear hb2 hb2' hown2
      go_wp2_with fail
      refine ⟨fun _ => ⟨a3, G2⟩, ?_⟩
      refine wpAnyT_next (i := 10) (by kernel_rfl) rfl ?_
      go_wp2_with fail
      refine ⟨fun _ => ⟨a3, G2⟩, ?_⟩
      refine wpAnyT_next (i := 11) (by kernel_rfl) rfl ?_
      go_wp2_with fail
      refine ⟨fun _ => ⟨a3, G2⟩, ?_⟩
      refine wpAnyT_next (i := 12) (by kernel_rfl) rfl ?_
      go_wp2_with fail
      refine ⟨fun h => by simp at h, ?_⟩
      refine wpAnyT_done (by kernel_rfl) ?_ _
      go_wp2_with fail
      go_roundw
      case rel => exact ⟨k + 1, _, by omega, by simp [hlen], by go_num, HMAP1.out, HBX1.out, HBY1.out, HOH1.out, HON1.out, HOS1.out, qbv, by simp; omega, HALL1.out⟩
      case measure => simp [intOf]; omega
    · have hkl : N.l.length ≤ k := by omega
      have HAF : Hid (∀ n, n ∈ NL → Rd (fun b => wS.heap.size ≤ b ∧ b < wr.heap.size) 1 ienc wr n.af) := Lib.hid fun n hn => by
        obtain ⟨i, hi⟩ := List.getElem?_of_mem hn
        have : i < NL.length := (List.getElem?_eq_some_iff.1 hi).1
        exact (HALL.out i n hi).1 (by omega)
      go_wp2_with fail
      try simp only [Exit.inBlock, Exit.then]
      refine bodyPost_ret (v := .agg #[.int .i64 id, .bool cut, .slice HA H.l.length Hc, .slice NA N.l.length Nc, .slice SA S.l.length Sc]) ?_ rfl ⟨⟨id, cut, ⟨HA, Hc, H.l⟩, ⟨NA, Nc, NL⟩, ⟨SA, Sc, S.l⟩⟩, by simp only [hlen], by simp only [Phone.d, HMAP.out], ⟨wS.heap.size, Own.mono (base := w.heap.size + 2) (by repeat (first | (with_reducible exact HOH.out) | ((with_reducible refine Own.farr ?_ ?_); focus (first | (simp; done) | (simp; omega) | omega)) | (with_reducible refine Own.alloc ?_ _) | (with_reducible refine Own.drew ?_) | (with_reducible refine Own.drewN ?_ _) | ((with_reducible apply own_via); focus (with_reducible assumption)))) (by omega), Own.mono (base := w.heap.size + 2) (by repeat (first | (with_reducible exact HON.out) | ((with_reducible refine Own.farr ?_ ?_); focus (first | (simp; done) | (simp; omega) | omega)) | (with_reducible refine Own.alloc ?_ _) | (with_reducible refine Own.drew ?_) | (with_reducible refine Own.drewN ?_ _) | ((with_reducible apply own_via); focus (with_reducible assumption)))) (by omega), Own.mono (base := w.heap.size + 2) (by repeat (first | (with_reducible exact HOS.out) | ((with_reducible refine Own.farr ?_ ?_); focus (first | (simp; done) | (simp; omega) | omega)) | (with_reducible refine Own.alloc ?_ _) | (with_reducible refine Own.drew ?_) | (with_reducible refine Own.drewN ?_ _) | ((with_reducible apply own_via); focus (with_reducible assumption)))) (by omega), HAP.out.1, HAP.out.2.1, HAP.out.2.2, HBB.out.1, HBB.out.2.1, HBB.out.2.2, by simpa using hsz, hB3.size, fun n hn => ?_⟩, qbv⟩
      simp [results, Try.results62, go_sem, a0, a1, a2, a3, a4, af, b0, b1, b2, b3, b4, bf]
      refine Rd.mono (F := fun b => wS.heap.size ≤ b ∧ b < wr.heap.size) ?_ (fun b hb => ⟨hb.1, by simpa using hb.2⟩)
      repeat refine Rd.setfarr (by simp; omega) ?_
      exact HAF.out n hn
end Go.Proofs.Ythnblhbdfpmolaa
