/- Walks of package phone: Promise, the way through. -/
import Derived.Test.YthnblhbdfpmolaaPNotemxam
namespace Go.Proofs.Ythnblhbdfpmolaa
open Go.RowKit
theorem Phone.nle {p : Phone} (h : p.d.right = true) : p.N.l.length ≤ 10000 := by have := (PhoneD.right_iff h).N; simpa [Phone.d] using this
theorem Phone.sle {p : Phone} (h : p.d.right = true) : p.S.l.length = 12 := by have := (PhoneD.right_iff h).S; simpa [Phone.d] using this
theorem Own.apart_ne {α β : Type} {b1 b2 : Nat} {e1 e2 : TypeId} {k1 k2 : Nat} {c1 : α → List Value} {c2 : β → List Value} {w w' : World} {s1 : Sl α} {s2 : Sl β} (h1 : Own b1 e1 k1 c1 w s1) (h2 : Own b2 e2 k2 c2 w' s2) (ha : Apart s1.A s2.A) :
    (Value.slice s1.A s1.l.length s1.c).ownBlock = none ∨ (Value.slice s1.A s1.l.length s1.c).ownBlock ≠ (Value.slice s2.A s2.l.length s2.c).ownBlock := by
  rcases h1.form with ⟨hA, _⟩ | ⟨g, hA, _⟩
  · left; rw [hA]; rfl
  · right
    rcases h2.form with ⟨hB, _⟩ | ⟨g', hB, _⟩
    · rw [hA, hB]; simp [Value.ownBlock]
    · rw [hA, hB]; simp only [Value.ownBlock]; intro hc; injection hc with hc; exact ha g g' hA hB hc
theorem Own.rdP {α : Type} {base : Nat} {e : TypeId} {k : Nat} {enc : α → List Value} {w : World} {s : Sl α} {P : Nat → Prop} (hk : ∀ x, (enc x).length = k) (h : Own base e k enc w s) (hP : ∀ g, s.A = some ⟨g, 0, none⟩ → P g) :
    Rd (fun b => base ≤ b ∧ P b ∧ b < w.heap.size) k enc w s := by
  have hr := h.rd hk
  refine ⟨hr.1, hr.2.1, hr.2.2.1, fun i x hx => ?_⟩
  obtain ⟨b, o, hA, hF, hc⟩ := hr.2.2.2 i x hx
  rcases h.form with ⟨h0, _⟩ | ⟨g, h0, _⟩
  · rw [h0] at hA; cases hA
  · have h0' := h0
    rw [h0] at hA; injection hA with hA; injection hA with hA1 hA2
    subst hA1; subst hA2
    exact ⟨g, 0, h0', ⟨hF.1, hP g h0', hF.2⟩, hc⟩
theorem RdPhone.fin3 {B C c : Nat} {w : World} {s : Phone} (h : RdPhone (fun b => B ≤ b ∧ b ≠ c ∧ b < C) w s) (hC : C ≤ w.heap.size) : RdPhone (· < w.heap.size) w s := h.mono fun _ hb => Nat.lt_of_lt_of_le hb.2.2 hC
theorem RdPhone.fin4 {A B C c : Nat} {w : World} {s : Phone} (h : RdPhone (fun b => B ≤ b ∧ b ≠ c ∧ b < C) w s) (hA : A ≤ B) (hC : C ≤ w.heap.size) : RdPhone (fun b => A ≤ b ∧ b < w.heap.size) w s := h.mono fun _ hb => ⟨Nat.le_trans hA hb.1, Nat.lt_of_lt_of_le hb.2.2 hC⟩
theorem Own.row_ne {α : Type} {base : Nat} {e : TypeId} {k : Nat} {enc : α → List Value} {w : World} {s : Sl α} {m : Nat} (h : Own base e k enc w s) (hm : ∀ g, s.A = some ⟨g, 0, none⟩ → g < m) (b : Nat) (hb : m ≤ b) : some b ≠ (Value.slice s.A s.l.length s.c).ownBlock := by
  rcases h.form with ⟨hA, _⟩ | ⟨g, hA, _⟩
  · rw [hA]; simp [Value.ownBlock]
  · rw [hA]; simp only [Value.ownBlock]; intro hc; injection hc with hc; have := hm g hA; omega

set_option maxHeartbeats 1600000 in
theorem phone_promise_ok1 (p : Phone) (k n t : Int) (tx : ByteArray) (i : Nat) (x : Hold) (w : World) (hr : RdPhone (· < w.heap.size) w p) (HF : Hid (p.d.right = true)) (h1 : rngB n 1 1000000000000000 = true) (h2 : rngB t 0 1048576 = true) (h3 : tx.size ≤ 20000)
    (HH : Hid (hhas p.H.l k = true)) (HI : Hid (hidx p.H.l k = i)) (HX : Hid (p.H.l[i]? = some x)) (hx1 : 0 ≤ x.u) (hx2 : x.u ≤ 1000000000000000) (hx3 : 0 ≤ x.s) (hx4 : x.s ≤ x.u) (hge : n ≤ x.u - x.s)
    (m : Nat) (y : Note) (HLEN : Hid (p.N.l.length = m + 1)) (HY : Hid (p.N.l[m]? = some y)) (hlate : y.tm ≤ t) (hfull : p.N.l.length ≠ 10000) :
    Calls Try.prog 24 #[p.v, .int .i64 k, .int .i64 n, .int .i64 t, .string tx] w fun e w' => ∃ p' : Phone, e = .returned (.tuple #[p'.v, .int .i64 0]) ∧ p'.d = { p.d with H := p.d.H.set i { x with s := x.s + n }, N := p.d.N ++ [⟨p.id, p.N.l.length, p.S.l, t, tx⟩] } ∧ RdPhone (fun b => w.heap.size ≤ b ∧ b < w'.heap.size) w' p' ∧ Below w.heap.size w w' := by
  have hn1 := rngB_iff.1 h1
  have hfull' : ((p.N.l.length : Int) == 10000) = false := by simp; omega
  have HFU := Lib.hid hfull
  clear hfull
  obtain ⟨id, cut, H, N, S⟩ := p
  have HR := Lib.hid hr
  clear hr
  simp only [Phone.v]
  go_enter Try.func24, Try.ntmps24
  go_wp2_with fail
  refine (phone_right ⟨id, cut, H, N, S⟩ _ (HR.out.later qbl (Nat.le_refl _))).mono ?_
  rintro e w1 ⟨rfl, hb1⟩
  rw [HF.out]
  have K_a : Blk _ (w.heap.size) 33 #[.int .i64 id, .bool cut, .slice H.A H.l.length H.c, .slice N.A N.l.length N.c, .slice S.A S.l.length S.c] := qkb hb1
  obtain ⟨a0, a1, a2, a3, a4, af, az⟩ := Blk.b5 K_a
  have B_a := Lib.hid K_a
  clear K_a
  have K_b : Blk _ (w.heap.size + 1) 33 #[.int .i64 0, .bool false, .slice none 0 0, .slice none 0 0, .slice none 0 0] := qkb hb1
  obtain ⟨b0, b1, b2, b3, b4, bf, bz⟩ := Blk.b5 K_b
  have B_b := Lib.hid K_b
  clear K_b
  have hB1 : Below w.heap.size w w1 := qbv
  clear hb1
  go_wp2_with (go_at_call 59; refine (pto_any _ _ _ _).mono ?_; rintro e w' ⟨rfl, rfl⟩)
  refine (phone_find ⟨id, cut, H, N, S⟩ k _ (HR.out.later hB1 (Nat.le_refl _)) (PhoneD.right_iff HF.out).H).mono ?_
  rintro e w2 ⟨rfl, hb2⟩
  rw [HH.out]
  clear a0 a1 a2 a3 a4 af b0 b1 b2 b3 b4 bf
  have K_a : Blk _ (w.heap.size) 33 #[.int .i64 id, .bool cut, .slice H.A H.l.length H.c, .slice N.A N.l.length N.c, .slice S.A S.l.length S.c] := qkc B_a hb2
  obtain ⟨a0, a1, a2, a3, a4, af, az⟩ := Blk.b5 K_a
  have B_a := Lib.hid K_a
  clear K_a
  have K_b : Blk _ (w.heap.size + 1) 33 #[.int .i64 0, .bool false, .slice none 0 0, .slice none 0 0, .slice none 0 0] := qkc B_b hb2
  obtain ⟨b0, b1, b2, b3, b4, bf, bz⟩ := Blk.b5 K_b
  have B_b := Lib.hid K_b
  clear K_b
  have hB2 : Below w.heap.size w w2 := qbv
  clear hb2
  try simp only at hfull'
  have hlen' : (N.l.length : Int) - 1 = m := by have := HLEN.out; (try simp only at this); omega
  have hlen0 : 0 < N.l.length := by have := HLEN.out; (try simp only at this); omega
  have hlen1 : m < N.l.length := by have := HLEN.out; (try simp only at this); omega
  have hwm : wrap64 (m : Int) = m := by have := HR.out.2.1.1.len; (try simp only at this); unfold wrap64; omega
  obtain ⟨b3', o3', hA3, hF3, hcl3⟩ := HR.out.2.1.1.2.2.2 m y HY.out
  simp only at hA3
  have hcl3 := hcl3.keep (hB2.block b3' hF3)
  obtain ⟨j0, j1, j2, j3, j4⟩ := Cells.c5 hcl3
  clear hcl3 j0 j1 j2 j4
  try simp only at a3
  rw [hA3] at a3
  have HA3 := Lib.hid hA3
  clear hA3
  obtain ⟨b2', o2', hA2, hF2, hcl2⟩ := HR.out.1.2.2.2 _ x HX.out
  have hxi : i < H.l.length := (List.getElem?_eq_some_iff.1 HX.out).1
  simp only at hA2
  have hcl2 := hcl2.keep (hB2.block b2' hF2)
  obtain ⟨h0, h1', h2'⟩ := Cells.c3 hcl2
  clear hcl2
  try simp only at a2
  rw [hA2] at a2
  have HA2 := Lib.hid hA2
  clear hA2
  rw [HI.out]
  go_wp2_with fail
  go_quiet (fail)
  go_wp2_with fail
  rw [← HA2.out, ← HA3.out]
  refine (phone_copied_r ⟨id, cut, H, N, S⟩ _ (HR.out.later qbv (Nat.le_refl _)) HF.out).mono ?_
  rintro e w3 ⟨⟨id', cut', ⟨HA', HC', HL'⟩, ⟨NA', NC', NL'⟩, ⟨SA', SC', SL'⟩⟩, rfl, hd, ⟨mm, hO⟩, hb3⟩
  simp only [Phone.d, PhoneD.mk.injEq] at hd
  obtain ⟨hd1, hd2, hd3, hd4, hd5⟩ := hd
  subst hd3; subst hd5
  have HD1 := Lib.hid hd1
  have HD2 := Lib.hid hd2
  have HD4 := Lib.hid hd4
  have hnl : NL'.length = N.l.length := by have := congrArg List.length hd4; simpa using this
  have HNL := Lib.hid hnl
  have hnl2 : NL'.length ≤ 10000 := by rw [hnl]; exact Phone.nle HF.out
  have hsl2 : S.l.length = 12 := Phone.sle HF.out
  have HSL := Lib.hid hsl2
  clear hd1 hd2 hd4 hnl hsl2
  clear a0 a1 a2 a3 a4 af b0 b1 b2 b3 b4 bf h0 h1' h2'
  have K_a : Blk _ (w.heap.size) 33 #[.int .i64 id, .bool cut, .slice H.A H.l.length H.c, .slice N.A N.l.length N.c, .slice S.A S.l.length S.c] := qkc B_a hb3
  obtain ⟨a0, a1, a2, a3, a4, af, az⟩ := Blk.b5 K_a
  have B_a := Lib.hid K_a
  clear K_a
  have K_b : Blk _ (w.heap.size + 1) 33 #[.int .i64 0, .bool false, .slice none 0 0, .slice none 0 0, .slice none 0 0] := qkc B_b hb3
  obtain ⟨b0, b1, b2, b3, b4, bf, bz⟩ := Blk.b5 K_b
  have B_b := Lib.hid K_b
  clear K_b
  have hB3 : Below w.heap.size w w3 := qbv
  have z3 : w2.heap.size ≤ w3.heap.size := hb3.size
  clear hb3
  obtain ⟨g, hg, hgl, hgu, hcl, gf⟩ := hO.H.atk Hold.k (i := i) (x := x) HX.out
  simp only at hg
  subst hg
  have hgl : w2.heap.size ≤ g := hgl
  have hgm := hO.bH g rfl
  have hmz := hO.bm
  obtain ⟨g0, g1, g2⟩ := Cells.c3 hcl
  clear hcl
  have HO := Lib.hid hO
  clear hO
  simp only [Phone.v]
  go_wp2_with fail
  have hne1 : g ≠ w.heap.size := by omega
  have hne2 : g ≠ w.heap.size + 1 := by omega
  have hne3 : g ≠ w3.heap.size := by omega
  have ane1 : w.heap.size ≠ g := by omega
  have ane2 : w.heap.size + 1 ≠ g := by omega
  refine wp_region_T (fun w' => w'.cell? ⟨w3.heap.size, 3, none⟩ = some (.slice NA' NL'.length NC') ∧ w'.cell? ⟨w.heap.size, 0, none⟩ = some (.int .i64 id) ∧ w'.cell? ⟨w.heap.size, 4, none⟩ = some (.slice S.A S.l.length S.c)) (fun i => 13 ≤ i) (by kernel_rfl) ⟨(Blk.new' (by simp)).cell 3, ((B_a.out.far (p := ⟨g, i * 3 + 2, none⟩) ane1 (.int .i64 (x.s + n))).alloc _).cell 0, ((B_a.out.far (p := ⟨g, i * 3 + 2, none⟩) ane1 (.int .i64 (x.s + n))).alloc _).cell 4⟩ (fun hHeld => ?_)
  refine wpAnyT_take (i := 0) (v := ?_) rfl (by kernel_rfl) (by kernel_rfl) (by kernel_rfl) (by kernel_rfl) (fun _ _ _ h => h) (Or.inl ⟨by rfl, ?_⟩) (by first | assumption | trivial) ?_
  rotate_left
  · (intro w hSw; (try dsimp only at hSw); go_simp) <;> (with_reducible rfl)
  try simp only [Act.put, List.setIfInBounds_toArray, List.set_cons_zero, List.set_cons_succ]
  refine wpAnyT_take (i := 1) (v := ?_) rfl (by kernel_rfl) (by kernel_rfl) (by kernel_rfl) (by kernel_rfl) (fun _ _ _ h => h) (Or.inl ⟨by rfl, ?_⟩) (by first | assumption | trivial) ?_
  rotate_left
  · (intro w hSw; (try dsimp only at hSw); go_simp) <;> (with_reducible rfl)
  try simp only [Act.put, List.setIfInBounds_toArray, List.set_cons_zero, List.set_cons_succ]
  refine wpAnyT_take (i := 2) (v := ?_) rfl (by kernel_rfl) (by kernel_rfl) (by kernel_rfl) (by kernel_rfl) (fun _ _ _ h => h) (Or.inl ⟨by rfl, ?_⟩) (by first | assumption | trivial) ?_
  rotate_left
  · (intro w hSw; (try dsimp only at hSw); go_simp) <;> (with_reducible rfl)
  try simp only [Act.put, List.setIfInBounds_toArray, List.set_cons_zero, List.set_cons_succ]
  refine wpAnyT_take (i := 3) (v := ?_) rfl (by kernel_rfl) (by kernel_rfl) (by kernel_rfl) (by kernel_rfl) (fun _ _ _ h => h) (Or.inl ⟨by rfl, ?_⟩) (by first | assumption | trivial) ?_
  rotate_left
  · (intro w hSw; (try dsimp only at hSw); go_simp) <;> (with_reducible rfl)
  try simp only [Act.put, List.setIfInBounds_toArray, List.set_cons_zero, List.set_cons_succ]
  refine wpAnyT_take (i := 4) (v := ?_) rfl (by kernel_rfl) (by kernel_rfl) (by kernel_rfl) (by kernel_rfl) (fun _ _ _ h => h) (Or.inl ⟨by rfl, ?_⟩) (by first | assumption | trivial) ?_
  rotate_left
  · (intro w hSw; (try dsimp only at hSw); go_simp) <;> (with_reducible rfl)
  try simp only [Act.put, List.setIfInBounds_toArray, List.set_cons_zero, List.set_cons_succ]
  refine wpAnyT_take (i := 5) (v := ?_) rfl (by kernel_rfl) (by kernel_rfl) (by kernel_rfl) (by kernel_rfl) (fun _ _ _ h => h) (Or.inl ⟨by rfl, ?_⟩) (by first | assumption | trivial) ?_
  rotate_left
  · (intro w hSw; (try dsimp only at hSw); go_simp) <;> (with_reducible rfl)
  try simp only [Act.put, List.setIfInBounds_toArray, List.set_cons_zero, List.set_cons_succ]
  refine wpAnyT_take (i := 6) (v := ?_) rfl (by kernel_rfl) (by kernel_rfl) (by kernel_rfl) (by kernel_rfl) (fun _ _ _ h => h) (Or.inl ⟨by rfl, ?_⟩) (by first | assumption | trivial) ?_
  rotate_left
  · (intro w hSw; (try dsimp only at hSw); go_simp) <;> (with_reducible rfl)
  try simp only [Act.put, List.setIfInBounds_toArray, List.set_cons_zero, List.set_cons_succ]
  refine wpAnyT_take (i := 8) (v := ?_) rfl (by kernel_rfl) (by kernel_rfl) (by kernel_rfl) (by kernel_rfl) (fun _ _ _ h => h) (Or.inl ⟨by rfl, ?_⟩) (by first | assumption | trivial) ?_
  rotate_left
  · (intro w hSw; (try dsimp only at hSw); go_simp) <;> (with_reducible rfl)
  try simp only [Act.put, List.setIfInBounds_toArray, List.set_cons_zero, List.set_cons_succ]
  refine wpAnyT_take (i := 9) (v := ?_) rfl (by kernel_rfl) (by kernel_rfl) (by kernel_rfl) (by kernel_rfl) (fun _ _ _ h => h) (Or.inl ⟨by rfl, ?_⟩) (by first | assumption | trivial) ?_
  rotate_left
  · (intro w hSw; (try dsimp only at hSw); go_simp) <;> (with_reducible rfl)
  try simp only [Act.put, List.setIfInBounds_toArray, List.set_cons_zero, List.set_cons_succ]
  clear hHeld
  refine wpAnyT_next (i := 7) (by kernel_rfl) rfl ?_
  go_wp2_with fail
  refine (clone_int S _ (HR.out.2.2.below' qbv (Nat.le_refl _)) (by have := HSL.out; omega)).mono ?_
  rintro e w4 ⟨A4, c4, rfl, hown4, hb4⟩
  clear a0 a1 a2 a3 a4 af b0 b1 b2 b3 b4 bf g0 g1 g2 gf
  have K_a : Blk _ (w.heap.size) 33 #[.int .i64 id, .bool cut, .slice H.A H.l.length H.c, .slice N.A N.l.length N.c, .slice S.A S.l.length S.c] := blk_later hb4 (by simp [hp_past, hp_at, hp_other, hp_same, hp_drew, hp_drewN, B_a.out.eq, B_a.out.lt, hp_same B_a.out.eq, hne1, ane1])
  obtain ⟨a0, a1, a2, a3, a4, af, az⟩ := Blk.b5 K_a
  have B_a := Lib.hid K_a
  clear K_a
  have K_b : Blk _ (w.heap.size + 1) 33 #[.int .i64 0, .bool false, .slice none 0 0, .slice none 0 0, .slice none 0 0] := blk_later hb4 (by simp [hp_past, hp_at, hp_other, hp_same, hp_drew, hp_drewN, B_b.out.eq, B_b.out.lt, hp_same B_b.out.eq, hne2, ane2])
  obtain ⟨b0, b1, b2, b3, b4, bf, bz⟩ := Blk.b5 K_b
  have B_b := Lib.hid K_b
  clear K_b
  have K_d : Blk _ (w3.heap.size) 33 #[.int .i64 id', .bool cut', .slice (some ⟨g, 0, none⟩) H.l.length HC', .slice NA' NL'.length NC', .slice SA' S.l.length SC'] := qkb hb4
  obtain ⟨d0, d1, d2, d3, d4, df, dz⟩ := Blk.b5 K_d
  have B_d := Lib.hid K_d
  clear K_d
  have hB4 : Below w.heap.size w w4 := qbv
  have z4 : w3.heap.size < w4.heap.size := by have := hb4.size; simp [World.drew] at this; omega
  have zb4 := hown4.bound
  have z4' : w3.heap.size + 1 ≤ w4.heap.size := z4
  have HOWN4 := Lib.hid (hown4.mono (base' := w3.heap.size + 1) (by simp [World.drew]))
  have HHH := Lib.hid ((HO.out.H.set Hold.k rfl HX.out (j := 2) (y := { x with s := x.s + n }) (u := .int .i64 (x.s + n)) (by omega) rfl))
  have HHN := Lib.hid (HO.out.N.other (a := ⟨g, i * 3 + 2, none⟩) (fun g' h => Ne.symm (HO.out.HN g g' rfl h)) (.int .i64 (x.s + n)))
  have HHS := Lib.hid (HO.out.S.other (a := ⟨g, i * 3 + 2, none⟩) (fun g' h => Ne.symm (HO.out.HS g g' rfl h)) (.int .i64 (x.s + n)))
  have HHH := Lib.hid ((HHH.out.alloc (.cells #[.int .i64 id', .bool cut', .slice (some ⟨g, 0, none⟩) H.l.length HC', .slice NA' NL'.length NC', .slice SA' S.l.length SC'] 33)).drew.below hb4)
  have HHN := Lib.hid ((HHN.out.alloc (.cells #[.int .i64 id', .bool cut', .slice (some ⟨g, 0, none⟩) H.l.length HC', .slice NA' NL'.length NC', .slice SA' S.l.length SC'] 33)).drew.below hb4)
  have HHS := Lib.hid ((HHS.out.alloc (.cells #[.int .i64 id', .bool cut', .slice (some ⟨g, 0, none⟩) H.l.length HC', .slice NA' NL'.length NC', .slice SA' S.l.length SC'] 33)).drew.below hb4)
  have HAF : Hid (∀ n, n ∈ NL' → Rd (fun b => mm ≤ b ∧ b < w3.heap.size) 1 ienc w4 n.af) := Lib.hid fun n' hn' => by
    have := (HO.out.af n' hn').setfar (p := ⟨g, i * 3 + 2, none⟩) (by simp; omega) (.int .i64 (x.s + n))
    have := this.keep (w' := World.alloc _ (.cells #[.int .i64 id', .bool cut', .slice (some ⟨g, 0, none⟩) H.l.length HC', .slice NA' NL'.length NC', .slice SA' S.l.length SC'] 33)) (fun b hb => Below.heap_alloc _ _ b (by simpa using hb.2))
    exact this.keep (fun b hb => hb4.block b (by have := hb.2; simp [World.drew] at this ⊢; omega))
  clear hb4 hown4
  go_wp2_with fail
  have hHeld := And.intro d3 (And.intro a0 a4)
  refine ⟨fun _ => hHeld, ?_⟩
  refine wpAnyT_take (i := 10) (v := ?_) rfl (by kernel_rfl) (by kernel_rfl) (by kernel_rfl) (by kernel_rfl) (fun _ _ _ h => h) (Or.inl ⟨by rfl, ?_⟩) (by first | assumption | trivial) ?_
  rotate_left
  · (intro w hSw; (try dsimp only at hSw); go_simp) <;> (with_reducible rfl)
  try simp only [Act.put, List.setIfInBounds_toArray, List.set_cons_zero, List.set_cons_succ]
  clear hHeld
  refine wpAnyT_next (i := 11) (by kernel_rfl) rfl ?_
  go_wp2_with fail
  refine ⟨fun _ => ⟨(B_d.out.alloc _).cell 3, (B_a.out.alloc _).cell 0, (B_a.out.alloc _).cell 4⟩, ?_⟩
  have hNN := HHN.out
  have hb64 : (NL'.length + 1) * 64 ≤ 140737488355328 := by omega
  refine wpAnyT_next (i := 12) (by kernel_rfl) rfl ?_
  refine wpl_append_sl _ rfl (.tmp 97) (.tmp 107) _ rfl Try.underlying23 infoNote (by omega) Note.k Note.one ⟨NA', NC', NL'⟩ ⟨some ⟨w4.heap.size, 0, none⟩, 1, [⟨id, N.l.length, ⟨A4, c4, S.l⟩, t, tx⟩]⟩ rfl rfl (hNN.alloc _) ((Own.lit (base := w4.heap.size) w4 _ [⟨id, N.l.length, ⟨A4, c4, S.l⟩, t, tx⟩] (Nat.le_refl _) (by simp [maxLen]) rfl Note.k).rd Note.k) (by simp [maxLen]; omega) (by simpa using hb64) (by simp; omega) ?_
  intro A5 c5 w5 hown5 hg5 hat5
  clear a0 a1 a2 a3 a4 af b0 b1 b2 b3 b4 bf d0 d1 d2 d3 d4 df
  have hN2 := hNN.mono (base' := w.heap.size + 2) (by show w.heap.size + 2 ≤ w2.heap.size; omega)
  have K_a : Blk _ (w.heap.size) 33 #[.int .i64 id, .bool cut, .slice H.A H.l.length H.c, .slice N.A N.l.length N.c, .slice S.A S.l.length S.c] := blk_grown hg5 (by simp [hp_past, hp_at, hp_other, hp_same, hp_drew, hp_drewN, B_a.out.eq, B_a.out.lt, hp_same B_a.out.eq]) (own_ne hN2 (.inl (by omega)))
  obtain ⟨a0, a1, a2, a3, a4, af, az⟩ := Blk.b5 K_a
  have B_a := Lib.hid K_a
  clear K_a
  have K_b : Blk _ (w.heap.size + 1) 33 #[.int .i64 0, .bool false, .slice none 0 0, .slice none 0 0, .slice none 0 0] := blk_grown hg5 (by simp [hp_past, hp_at, hp_other, hp_same, hp_drew, hp_drewN, B_b.out.eq, B_b.out.lt, hp_same B_b.out.eq]) (own_ne hN2 (.inl (by omega)))
  obtain ⟨b0, b1, b2, b3, b4, bf, bz⟩ := Blk.b5 K_b
  have B_b := Lib.hid K_b
  clear K_b
  have K_d : Blk _ (w3.heap.size) 33 #[.int .i64 id', .bool cut', .slice (some ⟨g, 0, none⟩) H.l.length HC', .slice NA' NL'.length NC', .slice SA' S.l.length SC'] := blk_grown hg5 (by simp [hp_past, hp_at, hp_other, hp_same, hp_drew, hp_drewN, B_d.out.eq, B_d.out.lt, hp_same B_d.out.eq]) (own_ne hN2 (.inr (fun g' h => Nat.lt_of_lt_of_le (HO.out.bN g' h) hmz)))
  obtain ⟨d0, d1, d2, d3, d4, df, dz⟩ := Blk.b5 K_d
  have B_d := Lib.hid K_d
  clear K_d
  have hB5 : Below w.heap.size w w5 := Below.grown qbh hg5 (by simp; omega) (fun j hj => by
    rcases hN2.form with ⟨h0, _⟩ | ⟨g', h0, h1, _⟩
    · simp only at h0; rw [h0] at hj; simp [Value.ownBlock] at hj
    · simp only at h0; rw [h0] at hj; simp [Value.ownBlock] at hj; omega)
  have z5 := hg5.size
  simp only [World.alloc, Array.size_push] at z5
  have hrow := fun b hb => Own.row_ne hNN HO.out.bN b hb
  have HFIN : Hid (RdPhone (fun b => w.heap.size + 2 ≤ b ∧ b ≠ w3.heap.size ∧ b < w5.heap.size) w5 ⟨id', cut', ⟨some ⟨g, 0, none⟩, HC', H.l.set i { x with s := x.s + n }⟩, ⟨A5, c5, NL' ++ [⟨id, N.l.length, ⟨A4, c4, S.l⟩, t, tx⟩]⟩, ⟨SA', SC', S.l⟩⟩) := Lib.hid (by
    have hH2 := HHH.out.mono (base' := w.heap.size + 2) (by show w.heap.size + 2 ≤ w2.heap.size; omega)
    have hS2 := HHS.out.mono (base' := w.heap.size + 2) (by show w.heap.size + 2 ≤ w2.heap.size; omega)
    have hown5' := hown5.mono (base' := w.heap.size + 2) (by show w.heap.size + 2 ≤ w2.heap.size; omega)
    refine ⟨?_, ⟨?_, ?_⟩, ?_⟩
    · exact ((hH2.alloc _).kept hg5 (Own.apart_ne hH2 hN2 HO.out.HN)).rdP Hold.k (P := fun b => b ≠ w3.heap.size) (fun g' h => by have := HO.out.bH g' h; omega)
    · refine hown5'.rdP Note.k (P := fun b => b ≠ w3.heap.size) (fun g' h => ?_)
      rcases hat5 with h' | h'
      · have := HO.out.bN g' (h'.symm.trans h); omega
      · simp only at h; rw [h'] at h; injection h with h; injection h with h; simp at h; omega
    · intro y' hy'
      rcases List.mem_append.1 hy' with hy' | hy'
      · refine Rd.mono (F := fun b => mm ≤ b ∧ b < w3.heap.size) ?_ (fun b hb => ⟨?_, ?_, ?_⟩)
        · exact (HAF.out y' hy').keep (fun b hb => (hg5.block b (by simp; omega) (hrow b hb.1)).trans (Below.heap_alloc _ _ b (by omega)))
        · have := HO.out.mb; have : w2.heap.size ≤ mm := this; omega
        · omega
        · omega
      · have := List.mem_singleton.1 hy'
        subst this
        refine Rd.mono (F := fun b => w3.heap.size + 1 ≤ b ∧ b < w4.heap.size) ?_ (fun b hb => ⟨by omega, by omega, by omega⟩)
        exact (HOWN4.out.rd ienc_k).keep (fun b hb => (hg5.block b (by simp; omega) (hrow b (by omega))).trans (Below.heap_alloc _ _ b (by omega)))
    · exact ((hS2.alloc _).kept hg5 (Own.apart_ne hS2 hN2 (fun a b h1 h2 => Ne.symm (HO.out.NS b a h2 h1)))).rdP ienc_k (P := fun b => b ≠ w3.heap.size) (fun g' h => by have := HO.out.bS g' h; omega))
  clear hown5 hg5 hat5 hNN hN2 hrow
  go_wp2_with fail
  refine ⟨⟨d3, a0, a4⟩, ?_⟩
  refine wpAnyT_next (i := 13) (by kernel_rfl) rfl ?_
  go_wp2_with fail
  refine ⟨fun h => by simp at h, ?_⟩
  refine wpAnyT_next (i := 14) (by kernel_rfl) rfl ?_
  go_wp2_with fail
  refine ⟨fun h => by simp at h, ?_⟩
  refine wpAnyT_done (by kernel_rfl) ?_ _
  go_wp2_with fail
  have HDD : Hid (Phone.d ⟨id', cut', ⟨some ⟨g, 0, none⟩, HC', H.l.set i { x with s := x.s + n }⟩, ⟨A5, c5, NL' ++ [⟨id, N.l.length, ⟨A4, c4, S.l⟩, t, tx⟩]⟩, ⟨SA', SC', S.l⟩⟩ = ⟨id, cut, H.l.set i { x with s := x.s + n }, N.l.map Note.d ++ [⟨id, N.l.length, S.l, t, tx⟩], S.l⟩) := Lib.hid (by
    have e1 := HD1.out; have e2 := HD2.out; have e4 := HD4.out
    simp only [Phone.d, PhoneD.mk.injEq, List.map_append, List.map_cons, List.map_nil]
    exact ⟨e1, e2, trivial, by rw [e4]; rfl, trivial⟩)
  try simp only [Exit.inBlock, Exit.then]
  refine bodyPost_ret (v := .tuple #[.agg #[.int .i64 id', .bool cut', .slice (some ⟨g, 0, none⟩) H.l.length HC', .slice A5 (NL'.length + 1) c5, .slice SA' S.l.length SC'], .int .i64 0]) ?_ rfl ⟨⟨id', cut', ⟨some ⟨g, 0, none⟩, HC', H.l.set i { x with s := x.s + n }⟩, ⟨A5, c5, NL' ++ [⟨id, N.l.length, ⟨A4, c4, S.l⟩, t, tx⟩]⟩, ⟨SA', SC', S.l⟩⟩, by simp, HDD.out, ?_, qbv⟩
  simp [results, Try.results24, go_sem, a0, a1, a2, a3, a4, af, b0, b1, b2, b3, b4, bf, d0, d1, d2, d3, d4, df, az, bz, dz]
  refine RdPhone.fin4 (A := w.heap.size) (B := w.heap.size + 2) (c := w3.heap.size) (C := w5.heap.size) ?_ (by omega) (by simp)
  repeat (refine RdPhone.setr (by simp) ?_)
  exact HFIN.out
set_option maxHeartbeats 1600000 in
theorem phone_promise_ok2 (p : Phone) (k n t : Int) (tx : ByteArray) (i : Nat) (x : Hold) (w : World) (hr : RdPhone (· < w.heap.size) w p) (HF : Hid (p.d.right = true)) (h1 : rngB n 1 1000000000000000 = true) (h2 : rngB t 0 1048576 = true) (h3 : tx.size ≤ 20000)
    (HH : Hid (hhas p.H.l k = true)) (HI : Hid (hidx p.H.l k = i)) (HX : Hid (p.H.l[i]? = some x)) (hx1 : 0 ≤ x.u) (hx2 : x.u ≤ 1000000000000000) (hx3 : 0 ≤ x.s) (hx4 : x.s ≤ x.u) (hge : n ≤ x.u - x.s)
    (HNIL : Hid (p.N.l = [])) :
    Calls Try.prog 24 #[p.v, .int .i64 k, .int .i64 n, .int .i64 t, .string tx] w fun e w' => ∃ p' : Phone, e = .returned (.tuple #[p'.v, .int .i64 0]) ∧ p'.d = { p.d with H := p.d.H.set i { x with s := x.s + n }, N := p.d.N ++ [⟨p.id, p.N.l.length, p.S.l, t, tx⟩] } ∧ RdPhone (fun b => w.heap.size ≤ b ∧ b < w'.heap.size) w' p' ∧ Below w.heap.size w w' := by
  have hn1 := rngB_iff.1 h1
  have hfull' : ((p.N.l.length : Int) == 10000) = false := by rw [HNIL.out]; rfl
  have hz : ¬ ((0 : Int) < (p.N.l.length : Int)) := by rw [HNIL.out]; simp
  have hz2 : ¬ (0 < p.N.l.length) := by rw [HNIL.out]; simp
  obtain ⟨id, cut, H, N, S⟩ := p
  have HR := Lib.hid hr
  clear hr
  simp only [Phone.v]
  go_enter Try.func24, Try.ntmps24
  go_wp2_with fail
  refine (phone_right ⟨id, cut, H, N, S⟩ _ (HR.out.later qbl (Nat.le_refl _))).mono ?_
  rintro e w1 ⟨rfl, hb1⟩
  rw [HF.out]
  have K_a : Blk _ (w.heap.size) 33 #[.int .i64 id, .bool cut, .slice H.A H.l.length H.c, .slice N.A N.l.length N.c, .slice S.A S.l.length S.c] := qkb hb1
  obtain ⟨a0, a1, a2, a3, a4, af, az⟩ := Blk.b5 K_a
  have B_a := Lib.hid K_a
  clear K_a
  have K_b : Blk _ (w.heap.size + 1) 33 #[.int .i64 0, .bool false, .slice none 0 0, .slice none 0 0, .slice none 0 0] := qkb hb1
  obtain ⟨b0, b1, b2, b3, b4, bf, bz⟩ := Blk.b5 K_b
  have B_b := Lib.hid K_b
  clear K_b
  have hB1 : Below w.heap.size w w1 := qbv
  clear hb1
  go_wp2_with (go_at_call 59; refine (pto_any _ _ _ _).mono ?_; rintro e w' ⟨rfl, rfl⟩)
  refine (phone_find ⟨id, cut, H, N, S⟩ k _ (HR.out.later hB1 (Nat.le_refl _)) (PhoneD.right_iff HF.out).H).mono ?_
  rintro e w2 ⟨rfl, hb2⟩
  rw [HH.out]
  clear a0 a1 a2 a3 a4 af b0 b1 b2 b3 b4 bf
  have K_a : Blk _ (w.heap.size) 33 #[.int .i64 id, .bool cut, .slice H.A H.l.length H.c, .slice N.A N.l.length N.c, .slice S.A S.l.length S.c] := qkc B_a hb2
  obtain ⟨a0, a1, a2, a3, a4, af, az⟩ := Blk.b5 K_a
  have B_a := Lib.hid K_a
  clear K_a
  have K_b : Blk _ (w.heap.size + 1) 33 #[.int .i64 0, .bool false, .slice none 0 0, .slice none 0 0, .slice none 0 0] := qkc B_b hb2
  obtain ⟨b0, b1, b2, b3, b4, bf, bz⟩ := Blk.b5 K_b
  have B_b := Lib.hid K_b
  clear K_b
  have hB2 : Below w.heap.size w w2 := qbv
  clear hb2
  try simp only at hfull' hz hz2
  obtain ⟨b2', o2', hA2, hF2, hcl2⟩ := HR.out.1.2.2.2 _ x HX.out
  have hxi : i < H.l.length := (List.getElem?_eq_some_iff.1 HX.out).1
  simp only at hA2
  have hcl2 := hcl2.keep (hB2.block b2' hF2)
  obtain ⟨h0, h1', h2'⟩ := Cells.c3 hcl2
  clear hcl2
  try simp only at a2
  rw [hA2] at a2
  have HA2 := Lib.hid hA2
  clear hA2
  rw [HI.out]
  go_wp2_with fail
  go_quiet (fail)
  go_wp2_with fail
  rw [← HA2.out]
  refine (phone_copied_r ⟨id, cut, H, N, S⟩ _ (HR.out.later qbv (Nat.le_refl _)) HF.out).mono ?_
  rintro e w3 ⟨⟨id', cut', ⟨HA', HC', HL'⟩, ⟨NA', NC', NL'⟩, ⟨SA', SC', SL'⟩⟩, rfl, hd, ⟨mm, hO⟩, hb3⟩
  simp only [Phone.d, PhoneD.mk.injEq] at hd
  obtain ⟨hd1, hd2, hd3, hd4, hd5⟩ := hd
  subst hd3; subst hd5
  have HD1 := Lib.hid hd1
  have HD2 := Lib.hid hd2
  have HD4 := Lib.hid hd4
  have hnl : NL'.length = N.l.length := by have := congrArg List.length hd4; simpa using this
  have HNL := Lib.hid hnl
  have hnl2 : NL'.length ≤ 10000 := by rw [hnl]; exact Phone.nle HF.out
  have hsl2 : S.l.length = 12 := Phone.sle HF.out
  have HSL := Lib.hid hsl2
  clear hd1 hd2 hd4 hnl hsl2
  clear a0 a1 a2 a3 a4 af b0 b1 b2 b3 b4 bf h0 h1' h2'
  have K_a : Blk _ (w.heap.size) 33 #[.int .i64 id, .bool cut, .slice H.A H.l.length H.c, .slice N.A N.l.length N.c, .slice S.A S.l.length S.c] := qkc B_a hb3
  obtain ⟨a0, a1, a2, a3, a4, af, az⟩ := Blk.b5 K_a
  have B_a := Lib.hid K_a
  clear K_a
  have K_b : Blk _ (w.heap.size + 1) 33 #[.int .i64 0, .bool false, .slice none 0 0, .slice none 0 0, .slice none 0 0] := qkc B_b hb3
  obtain ⟨b0, b1, b2, b3, b4, bf, bz⟩ := Blk.b5 K_b
  have B_b := Lib.hid K_b
  clear K_b
  have hB3 : Below w.heap.size w w3 := qbv
  have z3 : w2.heap.size ≤ w3.heap.size := hb3.size
  clear hb3
  obtain ⟨g, hg, hgl, hgu, hcl, gf⟩ := hO.H.atk Hold.k (i := i) (x := x) HX.out
  simp only at hg
  subst hg
  have hgl : w2.heap.size ≤ g := hgl
  have hgm := hO.bH g rfl
  have hmz := hO.bm
  obtain ⟨g0, g1, g2⟩ := Cells.c3 hcl
  clear hcl
  have HO := Lib.hid hO
  clear hO
  simp only [Phone.v]
  go_wp2_with fail
  have hne1 : g ≠ w.heap.size := by omega
  have hne2 : g ≠ w.heap.size + 1 := by omega
  have hne3 : g ≠ w3.heap.size := by omega
  have ane1 : w.heap.size ≠ g := by omega
  have ane2 : w.heap.size + 1 ≠ g := by omega
  refine wp_region_T (fun w' => w'.cell? ⟨w3.heap.size, 3, none⟩ = some (.slice NA' NL'.length NC') ∧ w'.cell? ⟨w.heap.size, 0, none⟩ = some (.int .i64 id) ∧ w'.cell? ⟨w.heap.size, 4, none⟩ = some (.slice S.A S.l.length S.c)) (fun i => 13 ≤ i) (by kernel_rfl) ⟨(Blk.new' (by simp)).cell 3, ((B_a.out.far (p := ⟨g, i * 3 + 2, none⟩) ane1 (.int .i64 (x.s + n))).alloc _).cell 0, ((B_a.out.far (p := ⟨g, i * 3 + 2, none⟩) ane1 (.int .i64 (x.s + n))).alloc _).cell 4⟩ (fun hHeld => ?_)
  refine wpAnyT_take (i := 0) (v := ?_) rfl (by kernel_rfl) (by kernel_rfl) (by kernel_rfl) (by kernel_rfl) (fun _ _ _ h => h) (Or.inl ⟨by rfl, ?_⟩) (by first | assumption | trivial) ?_
  rotate_left
  · (intro w hSw; (try dsimp only at hSw); go_simp) <;> (with_reducible rfl)
  try simp only [Act.put, List.setIfInBounds_toArray, List.set_cons_zero, List.set_cons_succ]
  refine wpAnyT_take (i := 1) (v := ?_) rfl (by kernel_rfl) (by kernel_rfl) (by kernel_rfl) (by kernel_rfl) (fun _ _ _ h => h) (Or.inl ⟨by rfl, ?_⟩) (by first | assumption | trivial) ?_
  rotate_left
  · (intro w hSw; (try dsimp only at hSw); go_simp) <;> (with_reducible rfl)
  try simp only [Act.put, List.setIfInBounds_toArray, List.set_cons_zero, List.set_cons_succ]
  refine wpAnyT_take (i := 2) (v := ?_) rfl (by kernel_rfl) (by kernel_rfl) (by kernel_rfl) (by kernel_rfl) (fun _ _ _ h => h) (Or.inl ⟨by rfl, ?_⟩) (by first | assumption | trivial) ?_
  rotate_left
  · (intro w hSw; (try dsimp only at hSw); go_simp) <;> (with_reducible rfl)
  try simp only [Act.put, List.setIfInBounds_toArray, List.set_cons_zero, List.set_cons_succ]
  refine wpAnyT_take (i := 3) (v := ?_) rfl (by kernel_rfl) (by kernel_rfl) (by kernel_rfl) (by kernel_rfl) (fun _ _ _ h => h) (Or.inl ⟨by rfl, ?_⟩) (by first | assumption | trivial) ?_
  rotate_left
  · (intro w hSw; (try dsimp only at hSw); go_simp) <;> (with_reducible rfl)
  try simp only [Act.put, List.setIfInBounds_toArray, List.set_cons_zero, List.set_cons_succ]
  refine wpAnyT_take (i := 4) (v := ?_) rfl (by kernel_rfl) (by kernel_rfl) (by kernel_rfl) (by kernel_rfl) (fun _ _ _ h => h) (Or.inl ⟨by rfl, ?_⟩) (by first | assumption | trivial) ?_
  rotate_left
  · (intro w hSw; (try dsimp only at hSw); go_simp) <;> (with_reducible rfl)
  try simp only [Act.put, List.setIfInBounds_toArray, List.set_cons_zero, List.set_cons_succ]
  refine wpAnyT_take (i := 5) (v := ?_) rfl (by kernel_rfl) (by kernel_rfl) (by kernel_rfl) (by kernel_rfl) (fun _ _ _ h => h) (Or.inl ⟨by rfl, ?_⟩) (by first | assumption | trivial) ?_
  rotate_left
  · (intro w hSw; (try dsimp only at hSw); go_simp) <;> (with_reducible rfl)
  try simp only [Act.put, List.setIfInBounds_toArray, List.set_cons_zero, List.set_cons_succ]
  refine wpAnyT_take (i := 6) (v := ?_) rfl (by kernel_rfl) (by kernel_rfl) (by kernel_rfl) (by kernel_rfl) (fun _ _ _ h => h) (Or.inl ⟨by rfl, ?_⟩) (by first | assumption | trivial) ?_
  rotate_left
  · (intro w hSw; (try dsimp only at hSw); go_simp) <;> (with_reducible rfl)
  try simp only [Act.put, List.setIfInBounds_toArray, List.set_cons_zero, List.set_cons_succ]
  refine wpAnyT_take (i := 8) (v := ?_) rfl (by kernel_rfl) (by kernel_rfl) (by kernel_rfl) (by kernel_rfl) (fun _ _ _ h => h) (Or.inl ⟨by rfl, ?_⟩) (by first | assumption | trivial) ?_
  rotate_left
  · (intro w hSw; (try dsimp only at hSw); go_simp) <;> (with_reducible rfl)
  try simp only [Act.put, List.setIfInBounds_toArray, List.set_cons_zero, List.set_cons_succ]
  refine wpAnyT_take (i := 9) (v := ?_) rfl (by kernel_rfl) (by kernel_rfl) (by kernel_rfl) (by kernel_rfl) (fun _ _ _ h => h) (Or.inl ⟨by rfl, ?_⟩) (by first | assumption | trivial) ?_
  rotate_left
  · (intro w hSw; (try dsimp only at hSw); go_simp) <;> (with_reducible rfl)
  try simp only [Act.put, List.setIfInBounds_toArray, List.set_cons_zero, List.set_cons_succ]
  clear hHeld
  refine wpAnyT_next (i := 7) (by kernel_rfl) rfl ?_
  go_wp2_with fail
  refine (clone_int S _ (HR.out.2.2.below' qbv (Nat.le_refl _)) (by have := HSL.out; omega)).mono ?_
  rintro e w4 ⟨A4, c4, rfl, hown4, hb4⟩
  clear a0 a1 a2 a3 a4 af b0 b1 b2 b3 b4 bf g0 g1 g2 gf
  have K_a : Blk _ (w.heap.size) 33 #[.int .i64 id, .bool cut, .slice H.A H.l.length H.c, .slice N.A N.l.length N.c, .slice S.A S.l.length S.c] := blk_later hb4 (by simp [hp_past, hp_at, hp_other, hp_same, hp_drew, hp_drewN, B_a.out.eq, B_a.out.lt, hp_same B_a.out.eq, hne1, ane1])
  obtain ⟨a0, a1, a2, a3, a4, af, az⟩ := Blk.b5 K_a
  have B_a := Lib.hid K_a
  clear K_a
  have K_b : Blk _ (w.heap.size + 1) 33 #[.int .i64 0, .bool false, .slice none 0 0, .slice none 0 0, .slice none 0 0] := blk_later hb4 (by simp [hp_past, hp_at, hp_other, hp_same, hp_drew, hp_drewN, B_b.out.eq, B_b.out.lt, hp_same B_b.out.eq, hne2, ane2])
  obtain ⟨b0, b1, b2, b3, b4, bf, bz⟩ := Blk.b5 K_b
  have B_b := Lib.hid K_b
  clear K_b
  have K_d : Blk _ (w3.heap.size) 33 #[.int .i64 id', .bool cut', .slice (some ⟨g, 0, none⟩) H.l.length HC', .slice NA' NL'.length NC', .slice SA' S.l.length SC'] := qkb hb4
  obtain ⟨d0, d1, d2, d3, d4, df, dz⟩ := Blk.b5 K_d
  have B_d := Lib.hid K_d
  clear K_d
  have hB4 : Below w.heap.size w w4 := qbv
  have z4 : w3.heap.size < w4.heap.size := by have := hb4.size; simp [World.drew] at this; omega
  have zb4 := hown4.bound
  have z4' : w3.heap.size + 1 ≤ w4.heap.size := z4
  have HOWN4 := Lib.hid (hown4.mono (base' := w3.heap.size + 1) (by simp [World.drew]))
  have HHH := Lib.hid ((HO.out.H.set Hold.k rfl HX.out (j := 2) (y := { x with s := x.s + n }) (u := .int .i64 (x.s + n)) (by omega) rfl))
  have HHN := Lib.hid (HO.out.N.other (a := ⟨g, i * 3 + 2, none⟩) (fun g' h => Ne.symm (HO.out.HN g g' rfl h)) (.int .i64 (x.s + n)))
  have HHS := Lib.hid (HO.out.S.other (a := ⟨g, i * 3 + 2, none⟩) (fun g' h => Ne.symm (HO.out.HS g g' rfl h)) (.int .i64 (x.s + n)))
  have HHH := Lib.hid ((HHH.out.alloc (.cells #[.int .i64 id', .bool cut', .slice (some ⟨g, 0, none⟩) H.l.length HC', .slice NA' NL'.length NC', .slice SA' S.l.length SC'] 33)).drew.below hb4)
  have HHN := Lib.hid ((HHN.out.alloc (.cells #[.int .i64 id', .bool cut', .slice (some ⟨g, 0, none⟩) H.l.length HC', .slice NA' NL'.length NC', .slice SA' S.l.length SC'] 33)).drew.below hb4)
  have HHS := Lib.hid ((HHS.out.alloc (.cells #[.int .i64 id', .bool cut', .slice (some ⟨g, 0, none⟩) H.l.length HC', .slice NA' NL'.length NC', .slice SA' S.l.length SC'] 33)).drew.below hb4)
  have HAF : Hid (∀ n, n ∈ NL' → Rd (fun b => mm ≤ b ∧ b < w3.heap.size) 1 ienc w4 n.af) := Lib.hid fun n' hn' => by
    have := (HO.out.af n' hn').setfar (p := ⟨g, i * 3 + 2, none⟩) (by simp; omega) (.int .i64 (x.s + n))
    have := this.keep (w' := World.alloc _ (.cells #[.int .i64 id', .bool cut', .slice (some ⟨g, 0, none⟩) H.l.length HC', .slice NA' NL'.length NC', .slice SA' S.l.length SC'] 33)) (fun b hb => Below.heap_alloc _ _ b (by simpa using hb.2))
    exact this.keep (fun b hb => hb4.block b (by have := hb.2; simp [World.drew] at this ⊢; omega))
  clear hb4 hown4
  go_wp2_with fail
  have hHeld := And.intro d3 (And.intro a0 a4)
  refine ⟨fun _ => hHeld, ?_⟩
  refine wpAnyT_take (i := 10) (v := ?_) rfl (by kernel_rfl) (by kernel_rfl) (by kernel_rfl) (by kernel_rfl) (fun _ _ _ h => h) (Or.inl ⟨by rfl, ?_⟩) (by first | assumption | trivial) ?_
  rotate_left
  · (intro w hSw; (try dsimp only at hSw); go_simp) <;> (with_reducible rfl)
  try simp only [Act.put, List.setIfInBounds_toArray, List.set_cons_zero, List.set_cons_succ]
  clear hHeld
  refine wpAnyT_next (i := 11) (by kernel_rfl) rfl ?_
  go_wp2_with fail
  refine ⟨fun _ => ⟨(B_d.out.alloc _).cell 3, (B_a.out.alloc _).cell 0, (B_a.out.alloc _).cell 4⟩, ?_⟩
  have hNN := HHN.out
  have hb64 : (NL'.length + 1) * 64 ≤ 140737488355328 := by omega
  refine wpAnyT_next (i := 12) (by kernel_rfl) rfl ?_
  refine wpl_append_sl _ rfl (.tmp 97) (.tmp 107) _ rfl Try.underlying23 infoNote (by omega) Note.k Note.one ⟨NA', NC', NL'⟩ ⟨some ⟨w4.heap.size, 0, none⟩, 1, [⟨id, N.l.length, ⟨A4, c4, S.l⟩, t, tx⟩]⟩ rfl rfl (hNN.alloc _) ((Own.lit (base := w4.heap.size) w4 _ [⟨id, N.l.length, ⟨A4, c4, S.l⟩, t, tx⟩] (Nat.le_refl _) (by simp [maxLen]) rfl Note.k).rd Note.k) (by simp [maxLen]; omega) (by simpa using hb64) (by simp; omega) ?_
  intro A5 c5 w5 hown5 hg5 hat5
  clear a0 a1 a2 a3 a4 af b0 b1 b2 b3 b4 bf d0 d1 d2 d3 d4 df
  have hN2 := hNN.mono (base' := w.heap.size + 2) (by show w.heap.size + 2 ≤ w2.heap.size; omega)
  have K_a : Blk _ (w.heap.size) 33 #[.int .i64 id, .bool cut, .slice H.A H.l.length H.c, .slice N.A N.l.length N.c, .slice S.A S.l.length S.c] := blk_grown hg5 (by simp [hp_past, hp_at, hp_other, hp_same, hp_drew, hp_drewN, B_a.out.eq, B_a.out.lt, hp_same B_a.out.eq]) (own_ne hN2 (.inl (by omega)))
  obtain ⟨a0, a1, a2, a3, a4, af, az⟩ := Blk.b5 K_a
  have B_a := Lib.hid K_a
  clear K_a
  have K_b : Blk _ (w.heap.size + 1) 33 #[.int .i64 0, .bool false, .slice none 0 0, .slice none 0 0, .slice none 0 0] := blk_grown hg5 (by simp [hp_past, hp_at, hp_other, hp_same, hp_drew, hp_drewN, B_b.out.eq, B_b.out.lt, hp_same B_b.out.eq]) (own_ne hN2 (.inl (by omega)))
  obtain ⟨b0, b1, b2, b3, b4, bf, bz⟩ := Blk.b5 K_b
  have B_b := Lib.hid K_b
  clear K_b
  have K_d : Blk _ (w3.heap.size) 33 #[.int .i64 id', .bool cut', .slice (some ⟨g, 0, none⟩) H.l.length HC', .slice NA' NL'.length NC', .slice SA' S.l.length SC'] := blk_grown hg5 (by simp [hp_past, hp_at, hp_other, hp_same, hp_drew, hp_drewN, B_d.out.eq, B_d.out.lt, hp_same B_d.out.eq]) (own_ne hN2 (.inr (fun g' h => Nat.lt_of_lt_of_le (HO.out.bN g' h) hmz)))
  obtain ⟨d0, d1, d2, d3, d4, df, dz⟩ := Blk.b5 K_d
  have B_d := Lib.hid K_d
  clear K_d
  have hB5 : Below w.heap.size w w5 := Below.grown qbh hg5 (by simp; omega) (fun j hj => by
    rcases hN2.form with ⟨h0, _⟩ | ⟨g', h0, h1, _⟩
    · simp only at h0; rw [h0] at hj; simp [Value.ownBlock] at hj
    · simp only at h0; rw [h0] at hj; simp [Value.ownBlock] at hj; omega)
  have z5 := hg5.size
  simp only [World.alloc, Array.size_push] at z5
  have hrow := fun b hb => Own.row_ne hNN HO.out.bN b hb
  have HFIN : Hid (RdPhone (fun b => w.heap.size + 2 ≤ b ∧ b ≠ w3.heap.size ∧ b < w5.heap.size) w5 ⟨id', cut', ⟨some ⟨g, 0, none⟩, HC', H.l.set i { x with s := x.s + n }⟩, ⟨A5, c5, NL' ++ [⟨id, N.l.length, ⟨A4, c4, S.l⟩, t, tx⟩]⟩, ⟨SA', SC', S.l⟩⟩) := Lib.hid (by
    have hH2 := HHH.out.mono (base' := w.heap.size + 2) (by show w.heap.size + 2 ≤ w2.heap.size; omega)
    have hS2 := HHS.out.mono (base' := w.heap.size + 2) (by show w.heap.size + 2 ≤ w2.heap.size; omega)
    have hown5' := hown5.mono (base' := w.heap.size + 2) (by show w.heap.size + 2 ≤ w2.heap.size; omega)
    refine ⟨?_, ⟨?_, ?_⟩, ?_⟩
    · exact ((hH2.alloc _).kept hg5 (Own.apart_ne hH2 hN2 HO.out.HN)).rdP Hold.k (P := fun b => b ≠ w3.heap.size) (fun g' h => by have := HO.out.bH g' h; omega)
    · refine hown5'.rdP Note.k (P := fun b => b ≠ w3.heap.size) (fun g' h => ?_)
      rcases hat5 with h' | h'
      · have := HO.out.bN g' (h'.symm.trans h); omega
      · simp only at h; rw [h'] at h; injection h with h; injection h with h; simp at h; omega
    · intro y' hy'
      rcases List.mem_append.1 hy' with hy' | hy'
      · refine Rd.mono (F := fun b => mm ≤ b ∧ b < w3.heap.size) ?_ (fun b hb => ⟨?_, ?_, ?_⟩)
        · exact (HAF.out y' hy').keep (fun b hb => (hg5.block b (by simp; omega) (hrow b hb.1)).trans (Below.heap_alloc _ _ b (by omega)))
        · have := HO.out.mb; have : w2.heap.size ≤ mm := this; omega
        · omega
        · omega
      · have := List.mem_singleton.1 hy'
        subst this
        refine Rd.mono (F := fun b => w3.heap.size + 1 ≤ b ∧ b < w4.heap.size) ?_ (fun b hb => ⟨by omega, by omega, by omega⟩)
        exact (HOWN4.out.rd ienc_k).keep (fun b hb => (hg5.block b (by simp; omega) (hrow b (by omega))).trans (Below.heap_alloc _ _ b (by omega)))
    · exact ((hS2.alloc _).kept hg5 (Own.apart_ne hS2 hN2 (fun a b h1 h2 => Ne.symm (HO.out.NS b a h2 h1)))).rdP ienc_k (P := fun b => b ≠ w3.heap.size) (fun g' h => by have := HO.out.bS g' h; omega))
  clear hown5 hg5 hat5 hNN hN2 hrow
  go_wp2_with fail
  refine ⟨⟨d3, a0, a4⟩, ?_⟩
  refine wpAnyT_next (i := 13) (by kernel_rfl) rfl ?_
  go_wp2_with fail
  refine ⟨fun h => by simp at h, ?_⟩
  refine wpAnyT_next (i := 14) (by kernel_rfl) rfl ?_
  go_wp2_with fail
  refine ⟨fun h => by simp at h, ?_⟩
  refine wpAnyT_done (by kernel_rfl) ?_ _
  go_wp2_with fail
  have HDD : Hid (Phone.d ⟨id', cut', ⟨some ⟨g, 0, none⟩, HC', H.l.set i { x with s := x.s + n }⟩, ⟨A5, c5, NL' ++ [⟨id, N.l.length, ⟨A4, c4, S.l⟩, t, tx⟩]⟩, ⟨SA', SC', S.l⟩⟩ = ⟨id, cut, H.l.set i { x with s := x.s + n }, N.l.map Note.d ++ [⟨id, N.l.length, S.l, t, tx⟩], S.l⟩) := Lib.hid (by
    have e1 := HD1.out; have e2 := HD2.out; have e4 := HD4.out
    simp only [Phone.d, PhoneD.mk.injEq, List.map_append, List.map_cons, List.map_nil]
    exact ⟨e1, e2, trivial, by rw [e4]; rfl, trivial⟩)
  try simp only [Exit.inBlock, Exit.then]
  refine bodyPost_ret (v := .tuple #[.agg #[.int .i64 id', .bool cut', .slice (some ⟨g, 0, none⟩) H.l.length HC', .slice A5 (NL'.length + 1) c5, .slice SA' S.l.length SC'], .int .i64 0]) ?_ rfl ⟨⟨id', cut', ⟨some ⟨g, 0, none⟩, HC', H.l.set i { x with s := x.s + n }⟩, ⟨A5, c5, NL' ++ [⟨id, N.l.length, ⟨A4, c4, S.l⟩, t, tx⟩]⟩, ⟨SA', SC', S.l⟩⟩, by simp, HDD.out, ?_, qbv⟩
  simp [results, Try.results24, go_sem, a0, a1, a2, a3, a4, af, b0, b1, b2, b3, b4, bf, d0, d1, d2, d3, d4, df, az, bz, dz]
  refine RdPhone.fin4 (A := w.heap.size) (B := w.heap.size + 2) (c := w3.heap.size) (C := w5.heap.size) ?_ (by omega) (by simp)
  repeat (refine RdPhone.setr (by simp) ?_)
  exact HFIN.out
theorem phone_promise_s (p : Phone) (k n t : Int) (tx : ByteArray) (w : World) (hr : RdPhone (· < w.heap.size) w p) :
    Calls Try.prog 24 #[p.v, .int .i64 k, .int .i64 n, .int .i64 t, .string tx] w fun e w' => ∃ p' : Phone, e = .returned (.tuple #[p'.v, .int .i64 (p.d.promise k n t tx).2]) ∧ p'.d = (p.d.promise k n t tx).1 ∧ Hid (p' = p ∨ RdPhone (fun b => w.heap.size ≤ b ∧ b < w'.heap.size) w' p') ∧ Below w.heap.size w w' := by
  have back : ∀ {q : Int}, p.d.promise k n t tx = (p.d, q) → Calls Try.prog 24 #[p.v, .int .i64 k, .int .i64 n, .int .i64 t, .string tx] w (fun e w' => e = .returned (.tuple #[p.v, .int .i64 q]) ∧ Below w.heap.size w w') →
      Calls Try.prog 24 #[p.v, .int .i64 k, .int .i64 n, .int .i64 t, .string tx] w fun e w' => ∃ p' : Phone, e = .returned (.tuple #[p'.v, .int .i64 (p.d.promise k n t tx).2]) ∧ p'.d = (p.d.promise k n t tx).1 ∧ Hid (p' = p ∨ RdPhone (fun b => w.heap.size ≤ b ∧ b < w'.heap.size) w' p') ∧ Below w.heap.size w w' := by
    intro q hq hc
    rw [hq]
    refine hc.mono ?_
    rintro e w' ⟨rfl, hb⟩
    exact ⟨p, rfl, rfl, .inl rfl, hb⟩
  rcases hf : okPro p.d n t tx
  · exact back (by unfold PhoneD.promise; rw [hf]; rfl) (phone_promise_no p k n t tx w hr hf)
  · have hf' := hf
    simp only [okPro, Bool.and_eq_true, decide_eq_true_eq] at hf'
    obtain ⟨hF, h1, h2, h3⟩ := hf'
    have hR := PhoneD.right_iff hF
    obtain ⟨_, hso, hal⟩ := holdsR_iff hR.H
    rcases hh : hhas p.H.l k
    · refine back ?_ (phone_promise_none p k n t tx w hr hF h1 h2 h3 hh)
      unfold PhoneD.promise
      rw [hf, if_pos rfl]
      have hh' : hhas p.d.H k = false := hh
      split <;> simp [hh']
    · obtain ⟨x, hx, _⟩ := hidx_at hso hh
      have hx' : p.d.H[hidx p.d.H k]? = some x := hx
      have hh' : hhas p.d.H k = true := hh
      obtain ⟨_, x1, x2, x3, x4⟩ := hal x (List.mem_of_getElem? hx)
      have hpro : p.d.promise k n t tx = if x.u - x.s < n then (p.d, 21) else if lateN p.d.N t then (p.d, 19) else if p.d.N.length = 10000 then (p.d, 6)
           else ({ p.d with H := p.d.H.set (hidx p.d.H k) { x with s := x.s + n }, N := p.d.N ++ [⟨p.d.id, p.d.N.length, p.d.S, t, tx⟩] }, 0) := by
        unfold PhoneD.promise
        rw [hf, if_pos rfl, hx']
        simp only [hh', if_true]
      rcases Int.lt_or_le (x.u - x.s) n with h | h
      · exact back (by rw [hpro, if_pos h]) (phone_promise_few p k n t tx _ x w hr hF h1 h2 h3 hh (Lib.hid rfl) hx (by omega) x2 x3 x4 h)
      · rcases hN : p.N.l with _ | ⟨y0, r⟩
        · have hl : lateN p.d.N t = false := by simp [Phone.d, hN, lateN]
          have hl2 : ¬ p.d.N.length = 10000 := by simp [Phone.d, hN]
          rw [hpro, if_neg (Int.not_lt.2 h), hl, if_neg (by simp), if_neg hl2]
          refine (phone_promise_ok2 p k n t tx _ x w hr hF h1 h2 h3 hh (Lib.hid rfl) hx (by omega) x2 x3 x4 h hN).mono ?_
          rintro e w' ⟨p', rfl, hd, hrd, hb⟩
          refine ⟨p', rfl, ?_, .inr hrd, hb⟩
          rw [hd]; simp [Phone.d]
        · obtain ⟨m, hm⟩ : ∃ m, p.N.l.length = m + 1 := ⟨r.length, by rw [hN]; rfl⟩
          have hy : p.N.l[m]? = some (p.N.l[m]'(by omega)) := List.getElem?_eq_getElem (by omega)
          generalize p.N.l[m]'(by omega) = y at hy
          have hlast : p.d.N.getLast? = some y.d := by
            simp only [Phone.d]
            rw [List.getLast?_eq_getElem?, List.length_map, hm, List.getElem?_map]
            simp [hy]
          have hln : lateN p.d.N t = decide (t < y.tm) := by simp [lateN, hlast, Note.d]
          rcases Int.lt_or_le t y.tm with h' | h'
          · exact back (by rw [hpro, if_neg (Int.not_lt.2 h), hln, if_pos (by simpa using h')]) (phone_promise_late p k n t tx _ x w hr hF h1 h2 h3 hh (Lib.hid rfl) hx (by omega) x2 x3 x4 h m y hm hy h')
          · by_cases hfu : p.N.l.length = 10000
            · exact back (by rw [hpro, if_neg (Int.not_lt.2 h), hln, if_neg (by simpa using h'), if_pos (by simpa [Phone.d] using hfu)]) (phone_promise_full p k n t tx _ x w hr hF h1 h2 h3 hh (Lib.hid rfl) hx (by omega) x2 x3 x4 h m y hm hy h' hfu)
            · rw [hpro, if_neg (Int.not_lt.2 h), hln, if_neg (by simpa using h'), if_neg (by simpa [Phone.d] using hfu)]
              refine (phone_promise_ok1 p k n t tx _ x w hr hF h1 h2 h3 hh (Lib.hid rfl) hx (by omega) x2 x3 x4 h m y hm hy h' hfu).mono ?_
              rintro e w' ⟨p', rfl, hd, hrd, hb⟩
              refine ⟨p', rfl, ?_, .inr hrd, hb⟩
              rw [hd]; simp [Phone.d]
theorem phone_promise (p : Phone) (k n t : Int) (tx : ByteArray) (w : World) (hr : RdPhone (· < w.heap.size) w p) :
    Calls Try.prog 24 #[p.v, .int .i64 k, .int .i64 n, .int .i64 t, .string tx] w fun e w' => ∃ p' : Phone, e = .returned (.tuple #[p'.v, .int .i64 (p.d.promise k n t tx).2]) ∧ p'.d = (p.d.promise k n t tx).1 ∧ RdPhone (· < w'.heap.size) w' p' ∧ Below w.heap.size w w' := by
  refine (phone_promise_s p k n t tx w hr).mono ?_
  rintro e w' ⟨p', h1, h2, h3, h4⟩
  refine ⟨p', h1, h2, ?_, h4⟩
  rcases h3.out with rfl | h3
  · exact hr.later h4 (Nat.le_refl _)
  · exact h3.mono fun b hb => hb.2
end Go.Proofs.Ythnblhbdfpmolaa
