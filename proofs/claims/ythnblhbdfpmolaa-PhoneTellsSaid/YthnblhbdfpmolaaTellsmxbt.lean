/- Walks of the reference of layer 43: Promise, the way through. -/
import Derived.Test.YthnblhbdfpmolaaTellsmxbs
import Derived.Test.YthnblhbdfpmolaaTellsmxaq
namespace Go.Proofs.Ythnblhbdfpmolaa
open Go.RowKit
set_option maxRecDepth 20000 in
set_option maxHeartbeats 1600000 in
theorem rpromise_ok1 (p : Phone) (k n t : Int) (tx : ByteArray) (i : Nat) (x : Hold) (w : World) (hr : RdPhone (· < w.heap.size) w p) (HF : Hid (p.d.right = true)) (h1 : rngB n 1 1000000000000000 = true) (h2 : rngB t 0 1048576 = true) (h3 : tx.size ≤ 20000)
    (HFK : Hid (findK Hold.st k 0 p.H.l = (i : Int))) (HX : Hid (p.H.l[i]? = some x)) (hx1 : 0 ≤ x.u) (hx2 : x.u ≤ 1000000000000000) (hx3 : 0 ≤ x.s) (hx4 : x.s ≤ x.u) (hge : n ≤ x.u - x.s)
    (m : Nat) (y : Note) (HLEN : Hid (p.N.l.length = m + 1)) (HY : Hid (p.N.l[m]? = some y)) (hlate : y.tm ≤ t) (hfull : p.N.l.length ≠ 10000) (B : Nat) (hBB : B ≤ w.heap.size) (hFN : ∀ y ∈ p.N.l, Rd (· < B) 1 ienc w y.af) :
    Calls Try.prog 25 #[p.v, .int .i64 k, .int .i64 n, .int .i64 t, .string tx] w fun e w' => ∃ p' : Phone, e = .returned (.tuple #[p'.v, .int .i64 0]) ∧ p'.d = { p.d with H := p.d.H.set i { x with s := x.s + n }, N := p.d.N ++ [⟨p.id, p.N.l.length, p.S.l, t, tx⟩] } ∧ RdPhone (fun b => b < B ∨ (w.heap.size ≤ b ∧ b < w'.heap.size)) w' p' ∧ Below w.heap.size w w' := by
  have hn1 := rngB_iff.1 h1
  have HFN := Lib.hid hFN
  clear hFN
  have hfull' : decide ((10000 : Int) ≤ (p.N.l.length : Int)) = false := by have := Phone.nle HF.out; simp; omega
  have HFU := Lib.hid hfull
  clear hfull
  obtain ⟨id, cut, H, N, S⟩ := p
  have HR := Lib.hid hr
  clear hr
  simp only [Phone.v]
  go_enter Try.func25, Try.ntmps25
  go_wp2_with fail
  refine (rright43 ⟨id, cut, H, N, S⟩ _ (HR.out.later qbl (Nat.le_refl _))).mono ?_
  rintro e w1 ⟨rfl, hb1⟩
  rw [HF.out]
  have K_a : Blk _ (w.heap.size) 26 #[.int .i64 id, .bool cut, .slice H.A H.l.length H.c, .slice N.A N.l.length N.c, .slice S.A S.l.length S.c] := qkb hb1
  obtain ⟨a0, a1, a2, a3, a4, af, az⟩ := Blk.b5 K_a
  have B_a := Lib.hid K_a
  clear K_a
  have K_b : Blk _ (w.heap.size + 1) 26 #[.int .i64 0, .bool false, .slice none 0 0, .slice none 0 0, .slice none 0 0] := qkb hb1
  obtain ⟨b0, b1, b2, b3, b4, bf, bz⟩ := Blk.b5 K_b
  have B_b := Lib.hid K_b
  clear K_b
  have hB1 : Below w.heap.size w w1 := qbv
  clear hb1
  go_wp2_with (go_at_call 54; refine (in43_any _ _ _ _).mono ?_; rintro e w' ⟨rfl, rfl⟩)
  refine (rat43 ⟨id, cut, H, N, S⟩ k _ (HR.out.later hB1 (Nat.le_refl _)).1).mono ?_
  rintro e w2 ⟨rfl, hb2⟩
  simp only
  rw [HFK.out]
  clear a0 a1 a2 a3 a4 af b0 b1 b2 b3 b4 bf
  have K_a : Blk _ (w.heap.size) 26 #[.int .i64 id, .bool cut, .slice H.A H.l.length H.c, .slice N.A N.l.length N.c, .slice S.A S.l.length S.c] := qkc B_a hb2
  obtain ⟨a0, a1, a2, a3, a4, af, az⟩ := Blk.b5 K_a
  have B_a := Lib.hid K_a
  clear K_a
  have K_b : Blk _ (w.heap.size + 1) 26 #[.int .i64 0, .bool false, .slice none 0 0, .slice none 0 0, .slice none 0 0] := qkc B_b hb2
  obtain ⟨b0, b1, b2, b3, b4, bf, bz⟩ := Blk.b5 K_b
  have B_b := Lib.hid K_b
  clear K_b
  have hB2 : Below w.heap.size w w2 := qbv
  clear hb2
  try simp only at hfull'
  have hlen' : (N.l.length : Int) - 1 = m := by have := HLEN.out; (try simp only at this); omega
  have hlen0 : 0 < N.l.length := by have := HLEN.out; (try simp only at this); omega
  have hlen1 : m < N.l.length := by have := HLEN.out; (try simp only at this); omega
  have hwm : wrap64 (m : Int) = m := by have := HR.out.2.1.1.len; (try simp only at this); unfold wrap64; omega
  obtain ⟨b3', o3', hA3, hF3, hcl3⟩ := HR.out.2.1.1.2.2.2 m y HY.out
  simp only at hA3
  have hcl3 := hcl3.keep (hB2.block b3' hF3)
  obtain ⟨j0, j1, j2, j3, j4⟩ := Cells.c5 hcl3
  clear hcl3 j0 j1 j2 j4
  try simp only at a3
  rw [hA3] at a3
  have HA3 := Lib.hid hA3
  clear hA3
  obtain ⟨b2', o2', hA2, hF2, hcl2⟩ := HR.out.1.2.2.2 _ x HX.out
  have hxi : i < H.l.length := (List.getElem?_eq_some_iff.1 HX.out).1
  simp only at hA2
  have hcl2 := hcl2.keep (hB2.block b2' hF2)
  obtain ⟨h0, h1', h2'⟩ := Cells.c3 hcl2
  clear hcl2
  try simp only at a2
  rw [hA2] at a2
  have HA2 := Lib.hid hA2
  clear hA2
  go_wp2_with fail
  go_quiet (fail)
  go_wp2_with fail
  rw [← HA2.out, ← HA3.out]
  refine (rcopied43_r ⟨id, cut, H, N, S⟩ _ (HR.out.later qbv (Nat.le_refl _)) HF.out).mono ?_
  rintro e w3 ⟨HA', Hc', NA', Nc', SA', Sc', rfl, oH, oN, oS, aHN, aHS, aNS, hb3⟩
  have hnl2 : N.l.length ≤ 10000 := Phone.nle HF.out
  have hsl2 : S.l.length = 12 := Phone.sle HF.out
  have HSL := Lib.hid hsl2
  clear hsl2
  clear a0 a1 a2 a3 a4 af b0 b1 b2 b3 b4 bf h0 h1' h2'
  have K_a : Blk _ (w.heap.size) 26 #[.int .i64 id, .bool cut, .slice H.A H.l.length H.c, .slice N.A N.l.length N.c, .slice S.A S.l.length S.c] := qkc B_a hb3
  obtain ⟨a0, a1, a2, a3, a4, af, az⟩ := Blk.b5 K_a
  have B_a := Lib.hid K_a
  clear K_a
  have K_b : Blk _ (w.heap.size + 1) 26 #[.int .i64 0, .bool false, .slice none 0 0, .slice none 0 0, .slice none 0 0] := qkc B_b hb3
  obtain ⟨b0, b1, b2, b3, b4, bf, bz⟩ := Blk.b5 K_b
  have B_b := Lib.hid K_b
  clear K_b
  have hB3 : Below w.heap.size w w3 := qbv
  have z3 : w2.heap.size ≤ w3.heap.size := hb3.size
  clear hb3
  have HNF : Hid (RdNotes (· < w.heap.size) w3 N) := Lib.hid (HR.out.2.1.keep fun b hb => hB3.block b hb)
  obtain ⟨g, hg, hgl, hgu, hcl, gf⟩ := oH.atk Hold.k (i := i) (x := x) HX.out
  simp only at hg
  subst hg
  have hgl : w2.heap.size ≤ g := hgl
  obtain ⟨g0, g1, g2⟩ := Cells.c3 hcl
  clear hcl
  have HOH := Lib.hid oH
  have HON := Lib.hid oN
  have HOS := Lib.hid oS
  have HAP := Lib.hid (And.intro aHN (And.intro aHS aNS))
  clear oH oN oS aHN aHS aNS
  simp only [Phone.v]
  go_wp2_with fail
  have hne1 : g ≠ w.heap.size := by omega
  have hne2 : g ≠ w.heap.size + 1 := by omega
  have hne3 : g ≠ w3.heap.size := by omega
  have ane1 : w.heap.size ≠ g := by omega
  have ane2 : w.heap.size + 1 ≠ g := by omega
  have ane3 : w3.heap.size ≠ g := by omega
  have hxi1 : (i : Int) < (H.l.length : Int) := by omega
  have hxi0 : (0 : Int) ≤ (i : Int) := by omega
  have hws : IntKind.i64.wrap (x.s + n) = x.s + n := by rw [IntKind.wrap_i64]; omega
  refine wp_region_T (fun w' => w'.cell? ⟨w3.heap.size, 2, none⟩ = some (.slice (some ⟨g, 0, none⟩) H.l.length Hc') ∧ w'.cell? ⟨g, i * 3 + 2, none⟩ = some (.int .i64 x.s)) (fun i => 11 ≤ i) (by kernel_rfl) ⟨(Blk.new' (by simp)).cell 2, kalloc _ g2⟩ (fun hHeld => ?_)
  refine qtq 0 ?_
  simp only [qsa, qsb, qsc]
  refine qtq 1 ?_
  simp only [qsa, qsb, qsc]
  refine qtq 2 ?_
  simp only [qsa, qsb, qsc]
  refine qtq 3 ?_
  simp only [qsa, qsb, qsc]
  refine qtq 4 ?_
  simp only [qsa, qsb, qsc]
  refine qtq 5 ?_
  simp only [qsa, qsb, qsc]
  refine qtq 6 ?_
  simp only [qsa, qsb, qsc]
  refine qtq 7 ?_
  simp only [qsa, qsb, qsc]
  refine qtq 8 ?_
  simp only [qsa, qsb, qsc]
  refine qtq 9 ?_
  simp only [qsa, qsb, qsc]
  refine qtq 10 ?_
  simp only [qsa, qsb, qsc]
  clear hHeld
  refine wpAnyT_next (i := 11) (by kernel_rfl) rfl ?_
  go_wp2_with fail
  try simp only [QT]
  try (with_reducible refine And.intro (fun h => by simp at h) ?_)
  refine wpAnyT_next (i := 12) (by kernel_rfl) rfl ?_
  go_wp2_with fail
  try simp only [QT]
  try (with_reducible refine And.intro (fun h => by simp at h) ?_)
  refine wpAnyT_next (i := 13) (by kernel_rfl) rfl ?_
  go_wp2_with fail
  try simp only [QT]
  try (with_reducible refine And.intro (fun h => by simp at h) ?_)
  refine wpAnyT_done (by kernel_rfl) ?_ _
  go_wp2_with fail
  obtain ⟨w4, hw4⟩ : ∃ z, z = (((w3.setCell ⟨g, i * 3 + 2, none⟩ (.int .i64 (x.s + n))).alloc (.cells #[.int .i64 id, .bool cut, .slice (some ⟨g, 0, none⟩) H.l.length Hc', .slice NA' N.l.length Nc', .slice SA' S.l.length Sc'] 26)).drew) := ⟨_, rfl⟩
  rw [← hw4]
  clear a0 a1 a2 a3 a4 af b0 b1 b2 b3 b4 bf g0 g1 g2 gf
  have B_a4 : Hid (Blk w4 w.heap.size 26 #[.int .i64 id, .bool cut, .slice H.A H.l.length H.c, .slice N.A N.l.length N.c, .slice S.A S.l.length S.c]) := Lib.hid (by rw [hw4]; exact (B_a.out.far (p := ⟨g, i * 3 + 2, none⟩) ane1 _).alloc _)
  have B_b4 : Hid (Blk w4 (w.heap.size + 1) 26 #[.int .i64 0, .bool false, .slice none 0 0, .slice none 0 0, .slice none 0 0]) := Lib.hid (by rw [hw4]; exact (B_b.out.far (p := ⟨g, i * 3 + 2, none⟩) ane2 _).alloc _)
  have B_d4 : Hid (Blk w4 w3.heap.size 26 #[.int .i64 id, .bool cut, .slice (some ⟨g, 0, none⟩) H.l.length Hc', .slice NA' N.l.length Nc', .slice SA' S.l.length Sc']) := Lib.hid (by rw [hw4]; exact Blk.new' (by simp))
  have HH4 := Lib.hid (show Own w2.heap.size 59 3 Hold.enc w4 ⟨some ⟨g, 0, none⟩, Hc', H.l.set i { x with s := x.s + n }⟩ from by rw [hw4]; exact (((HOH.out.set Hold.k rfl HX.out (j := 2) (y := { x with s := x.s + n }) (u := .int .i64 (x.s + n)) (by omega) rfl)).alloc _).drew)
  have HN4 := Lib.hid (show Own w2.heap.size 61 5 Note.enc w4 ⟨NA', Nc', N.l⟩ from by rw [hw4]; exact ((HON.out.other (a := ⟨g, i * 3 + 2, none⟩) (fun g' h => Ne.symm (HAP.out.1 g g' rfl h)) (.int .i64 (x.s + n))).alloc _).drew)
  have HS4 := Lib.hid (show Own w2.heap.size 3 1 ienc w4 ⟨SA', Sc', S.l⟩ from by rw [hw4]; exact ((HOS.out.other (a := ⟨g, i * 3 + 2, none⟩) (fun g' h => Ne.symm (HAP.out.2.1 g g' rfl h)) (.int .i64 (x.s + n))).alloc _).drew)
  have hB4 : Below w.heap.size w w4 := by rw [hw4]; exact qbv
  have z4 : w4.heap.size ≤ w3.heap.size + 1 := by rw [hw4]; simp [World.drew]
  have z4' : w3.heap.size + 1 ≤ w4.heap.size := by rw [hw4]; simp [World.drew]
  have HUN := Lib.hid HON.out.bound
  have HUS := Lib.hid HOS.out.bound
  clear hw4 HOH HON HOS B_a B_b HNF
  obtain ⟨a0, a1, a2, a3, a4, af, az4⟩ := B_a4.out.b5
  obtain ⟨b0, b1, b2, b3, b4, bf, bz4⟩ := B_b4.out.b5
  obtain ⟨d0, d1, d2, d3, d4, df, dz4⟩ := B_d4.out.b5
  refine wp_region_T (fun w' => w'.cell? ⟨w3.heap.size, 3, none⟩ = some (.slice NA' N.l.length Nc') ∧ w'.cell? ⟨w.heap.size, 0, none⟩ = some (.int .i64 id) ∧ w'.cell? ⟨w.heap.size, 4, none⟩ = some (.slice S.A S.l.length S.c)) (fun i => 14 ≤ i) (by kernel_rfl) ⟨d3, a0, a4⟩ (fun hHeld => ?_)
  refine qtq 0 ?_
  simp only [qsa, qsb, qsc]
  refine qtq 1 ?_
  simp only [qsa, qsb, qsc]
  refine qtq 2 ?_
  simp only [qsa, qsb, qsc]
  refine qtq 3 ?_
  simp only [qsa, qsb, qsc]
  refine qtq 4 ?_
  simp only [qsa, qsb, qsc]
  refine qtq 6 ?_
  simp only [qsa, qsb, qsc]
  refine qtq 7 ?_
  simp only [qsa, qsb, qsc]
  refine qtq 9 ?_
  simp only [qsa, qsb, qsc]
  refine qtq 10 ?_
  simp only [qsa, qsb, qsc]
  clear hHeld
  refine wpAnyT_next (i := 5) (by kernel_rfl) rfl ?_
  go_wp2_with fail
  have hHeld := fun o => And.intro (kalloc (w := w4) o d3) (And.intro (kalloc (w := w4) o a0) (kalloc (w := w4) o a4))
  refine ⟨by first | exact hHeld _ | exact fun _ => hHeld _, ?_⟩
  clear hHeld
  refine wpAnyT_next (i := 8) (by kernel_rfl) rfl ?_
  refine wpl_append_sl _ rfl (.tmp 94) (.tmp 96) _ rfl Try.underlying24 infoInt (by omega) ienc_k ienc_one ⟨some ⟨w4.heap.size, 0, none⟩, 0, []⟩ S rfl rfl (Own.lit0 ienc_k (base := w4.heap.size) (by rfl) (by simp)) (HR.out.2.2.below' qbv (Nat.le_refl _)) (by have := HR.out.2.2.len; simp [maxLen] at this ⊢; omega) (by have := HSL.out; simp; omega) (by simp; try omega) ?_
  intro A5 c5 w5 hown5 hg5 hat5
  simp only [List.nil_append] at hown5
  clear a0 a1 a2 a3 a4 af b0 b1 b2 b3 b4 bf d0 d1 d2 d3 d4 df
  have hr1 : w4.heap.size ≠ w.heap.size := by omega
  have hr2 : w4.heap.size ≠ w.heap.size + 1 := by omega
  have hr3 : w4.heap.size ≠ w3.heap.size := by omega
  have K_a : Blk _ (w.heap.size) 26 #[.int .i64 id, .bool cut, .slice H.A H.l.length H.c, .slice N.A N.l.length N.c, .slice S.A S.l.length S.c] := blk_grown hg5 (by simp [hp_past, hp_at, hp_other, hp_same, hp_drew, hp_drewN, B_a4.out.eq, B_a4.out.lt, hp_same B_a4.out.eq]) (by simp [Value.ownBlock, hr1])
  obtain ⟨a0, a1, a2, a3, a4, af, az⟩ := Blk.b5 K_a
  have B_a := Lib.hid K_a
  clear K_a
  have K_b : Blk _ (w.heap.size + 1) 26 #[.int .i64 0, .bool false, .slice none 0 0, .slice none 0 0, .slice none 0 0] := blk_grown hg5 (by simp [hp_past, hp_at, hp_other, hp_same, hp_drew, hp_drewN, B_b4.out.eq, B_b4.out.lt, hp_same B_b4.out.eq]) (by simp [Value.ownBlock, hr2])
  obtain ⟨b0, b1, b2, b3, b4, bf, bz⟩ := Blk.b5 K_b
  have B_b := Lib.hid K_b
  clear K_b
  have K_d : Blk _ (w3.heap.size) 26 #[.int .i64 id, .bool cut, .slice (some ⟨g, 0, none⟩) H.l.length Hc', .slice NA' N.l.length Nc', .slice SA' S.l.length Sc'] := blk_grown hg5 (by simp [hp_past, hp_at, hp_other, hp_same, hp_drew, hp_drewN, B_d4.out.eq, B_d4.out.lt, hp_same B_d4.out.eq]) (by simp [Value.ownBlock, hr3])
  obtain ⟨d0, d1, d2, d3, d4, df, dz⟩ := Blk.b5 K_d
  have B_d := Lib.hid K_d
  clear K_d
  have hB5 : Below w.heap.size w w5 := Below.grown qbv hg5 (by simp; omega) (fun j hj => by simp [Value.ownBlock] at hj; omega)
  have hlt5 : w4.heap.size + 1 ≤ w5.heap.size := by have := hg5.size; simpa [World.drew] using this
  have hH5 : Own w2.heap.size 59 3 Hold.enc w5 ⟨some ⟨g, 0, none⟩, Hc', H.l.set i { x with s := x.s + n }⟩ := ((HH4.out.alloc _).drew).kept hg5 (.inr (own_ne2 (by show _ ≠ w4.heap.size; omega)))
  have hN5 : Own w2.heap.size 61 5 Note.enc w5 ⟨NA', Nc', N.l⟩ := ((HN4.out.alloc _).drew).kept hg5 (.inr (own_ne HN4.out (.inr (fun q h => Nat.lt_of_lt_of_le (HUN.out q h) (by show _ ≤ w4.heap.size; omega)))))
  have hS5 : Own w2.heap.size 3 1 ienc w5 ⟨SA', Sc', S.l⟩ := ((HS4.out.alloc _).drew).kept hg5 (.inr (own_ne HS4.out (.inr (fun q h => Nat.lt_of_lt_of_le (HUS.out q h) (by show _ ≤ w4.heap.size; omega)))))
  have HO5 := Lib.hid hown5
  have HH5 := Lib.hid hH5
  have HN5 := Lib.hid hN5
  have HS5 := Lib.hid hS5
  clear hg5 hown5 hat5 hH5 hN5 hS5
  go_wp2_with fail
  have hHeld := And.intro d3 (And.intro a0 a4)
  refine ⟨by first | exact hHeld | exact fun _ => hHeld, ?_⟩
  refine qtq 11 ?_
  simp only [qsa, qsb, qsc]
  clear hHeld
  refine wpAnyT_next (i := 12) (by kernel_rfl) rfl ?_
  go_wp2_with fail
  have hHeld := fun o => And.intro (kalloc (w := w5) o d3) (And.intro (kalloc (w := w5) o a0) (kalloc (w := w5) o a4))
  refine ⟨by first | exact hHeld _ | exact fun _ => hHeld _, ?_⟩
  clear hHeld
  have hb64 : (N.l.length + 1) * 64 ≤ 140737488355328 := Nat.le_trans (Nat.mul_le_mul_right 64 (Nat.succ_le_succ hnl2)) (by decide)
  have hb63 : N.l.length + 1 ≤ maxLen := Nat.le_trans (Nat.succ_le_succ hnl2) (by decide)
  refine wpAnyT_next (i := 13) (by kernel_rfl) rfl ?_
  refine wpl_append_sl _ rfl (.tmp 90) (.tmp 101) _ rfl Try.underlying23 infoNote (by omega) Note.k Note.one ⟨NA', Nc', N.l⟩ ⟨some ⟨w5.heap.size, 0, none⟩, 1, [⟨id, N.l.length, ⟨A5, c5, S.l⟩, t, tx⟩]⟩ rfl rfl (HN5.out.alloc _) ((Own.lit (base := w5.heap.size) w5 _ [⟨id, N.l.length, ⟨A5, c5, S.l⟩, t, tx⟩] (Nat.le_refl _) (by simp [maxLen]) rfl Note.k).rd Note.k) hb63 hb64 (by simp; omega) ?_
  intro A6 c6 w6 hown6 hg6 hat6
  clear a0 a1 a2 a3 a4 af b0 b1 b2 b3 b4 bf d0 d1 d2 d3 d4 df
  have hN2 := HN5.out
  have hrow := fun b hb => Own.row_ne hN2 HUN.out b hb
  have K_a : Blk _ (w.heap.size) 26 #[.int .i64 id, .bool cut, .slice H.A H.l.length H.c, .slice N.A N.l.length N.c, .slice S.A S.l.length S.c] := blk_grown hg6 (by simp [hp_past, hp_at, hp_other, hp_same, hp_drew, hp_drewN, B_a.out.eq, B_a.out.lt, hp_same B_a.out.eq]) (own_ne hN2 (.inl (by omega)))
  obtain ⟨a0, a1, a2, a3, a4, af, az⟩ := Blk.b5 K_a
  have B_a := Lib.hid K_a
  clear K_a
  have K_b : Blk _ (w.heap.size + 1) 26 #[.int .i64 0, .bool false, .slice none 0 0, .slice none 0 0, .slice none 0 0] := blk_grown hg6 (by simp [hp_past, hp_at, hp_other, hp_same, hp_drew, hp_drewN, B_b.out.eq, B_b.out.lt, hp_same B_b.out.eq]) (own_ne hN2 (.inl (by omega)))
  obtain ⟨b0, b1, b2, b3, b4, bf, bz⟩ := Blk.b5 K_b
  have B_b := Lib.hid K_b
  clear K_b
  have K_d : Blk _ (w3.heap.size) 26 #[.int .i64 id, .bool cut, .slice (some ⟨g, 0, none⟩) H.l.length Hc', .slice NA' N.l.length Nc', .slice SA' S.l.length Sc'] := blk_grown hg6 (by simp [hp_past, hp_at, hp_other, hp_same, hp_drew, hp_drewN, B_d.out.eq, B_d.out.lt, hp_same B_d.out.eq]) (own_ne hN2 (.inr HUN.out))
  obtain ⟨d0, d1, d2, d3, d4, df, dz⟩ := Blk.b5 K_d
  have B_d := Lib.hid K_d
  clear K_d
  have hB6 : Below w.heap.size w w6 := Below.grown qbv hg6 (by simp; omega) (fun j hj => by
    rcases hN2.form with ⟨h0, _⟩ | ⟨g', h0, h1, _⟩
    · simp only at h0; rw [h0] at hj; simp [Value.ownBlock] at hj
    · simp only at h0; rw [h0] at hj; simp [Value.ownBlock] at hj; omega)
  have hlt6 : w5.heap.size + 1 ≤ w6.heap.size := by have := hg6.size; simpa using this
  have HFIN : Hid (RdPhone (fun b => b < B ∨ (w.heap.size + 2 ≤ b ∧ b ≠ w3.heap.size ∧ b < w6.heap.size)) w6 ⟨id, cut, ⟨some ⟨g, 0, none⟩, Hc', H.l.set i { x with s := x.s + n }⟩, ⟨A6, c6, N.l ++ [⟨id, N.l.length, ⟨A5, c5, S.l⟩, t, tx⟩]⟩, ⟨SA', Sc', S.l⟩⟩) := Lib.hid (by
    refine ⟨?_, ⟨?_, ?_⟩, ?_⟩
    · refine Rd.mono (((HH5.out.alloc _).kept hg6 (Own.apart_ne HH5.out hN2 HAP.out.1)).rdP Hold.k (P := fun b => b < w3.heap.size) (fun g' h => by injection h with h; injection h with h; omega)) (fun b hb => by omega)
    · refine Rd.mono (hown6.rdP Note.k (P := fun b => b ≠ w3.heap.size) (fun g' h => ?_)) (fun b hb => by omega)
      rcases hat6 with h' | h'
      · have := HUN.out g' (h'.symm.trans h); omega
      · simp only at h; rw [h'] at h; injection h with h; injection h with h; simp at h; omega
    · intro y' hy'
      rcases List.mem_append.1 hy' with hy' | hy'
      · refine Rd.mono ((HFN.out y' hy').keep fun b hb => hB6.block b (by omega)) (fun b hb => by omega)
      · have := List.mem_singleton.1 hy'
        subst this
        refine Rd.mono (F := fun b => w4.heap.size ≤ b ∧ b < w5.heap.size) ?_ (fun b hb => by omega)
        exact (HO5.out.rd ienc_k).keep (fun b hb => (hg6.block b (by simp; omega) (hrow b (by omega))).trans (Below.heap_alloc _ _ b (by omega)))
    · refine Rd.mono (((HS5.out.alloc _).kept hg6 (Own.apart_ne HS5.out hN2 (fun a b h1 h2 => Ne.symm (HAP.out.2.2 b a h2 h1)))).rdP ienc_k (P := fun b => b < w3.heap.size) (fun g' h => HUS.out g' h)) (fun b hb => by omega))
  clear hown6 hg6 hat6 hN2 hrow
  go_wp2_with fail
  have hHeld := And.intro d3 (And.intro a0 a4)
  refine ⟨by first | exact hHeld | exact fun _ => hHeld, ?_⟩
  clear hHeld
  refine wpAnyT_next (i := 14) (by kernel_rfl) rfl ?_
  go_wp2_with fail
  try simp only [QT]
  try (with_reducible refine And.intro (fun h => by simp at h) ?_)
  refine wpAnyT_next (i := 15) (by kernel_rfl) rfl ?_
  go_wp2_with fail
  try simp only [QT]
  try (with_reducible refine And.intro (fun h => by simp at h) ?_)
  refine wpAnyT_done (by kernel_rfl) ?_ _
  go_wp2_with fail
  try simp only [Exit.inBlock, Exit.then]
  refine bodyPost_ret (v := .tuple #[.agg #[.int .i64 id, .bool cut, .slice (some ⟨g, 0, none⟩) H.l.length Hc', .slice A6 (N.l.length + 1) c6, .slice SA' S.l.length Sc'], .int .i64 0]) ?_ rfl ⟨⟨id, cut, ⟨some ⟨g, 0, none⟩, Hc', H.l.set i { x with s := x.s + n }⟩, ⟨A6, c6, N.l ++ [⟨id, N.l.length, ⟨A5, c5, S.l⟩, t, tx⟩]⟩, ⟨SA', Sc', S.l⟩⟩, by simp, by simp [Phone.d, Note.d], ?_, qbv⟩
  simp [results, Try.results25, go_sem, a0, a1, a2, a3, a4, af, b0, b1, b2, b3, b4, bf, d0, d1, d2, d3, d4, df, az, bz, dz]
  refine RdPhone.mono (F := fun b => b < B ∨ (w.heap.size + 2 ≤ b ∧ b ≠ w3.heap.size ∧ b < w6.heap.size)) ?_ (fun b hb => by simp; omega)
  repeat (first | (with_reducible exact HFIN.out) | ((with_reducible refine RdPhone.setr ?_ ?_); focus (first | (simp; done) | (simp; omega))))
set_option maxRecDepth 20000 in
set_option maxHeartbeats 1600000 in
theorem rpromise_ok2 (p : Phone) (k n t : Int) (tx : ByteArray) (i : Nat) (x : Hold) (w : World) (hr : RdPhone (· < w.heap.size) w p) (HF : Hid (p.d.right = true)) (h1 : rngB n 1 1000000000000000 = true) (h2 : rngB t 0 1048576 = true) (h3 : tx.size ≤ 20000)
    (HFK : Hid (findK Hold.st k 0 p.H.l = (i : Int))) (HX : Hid (p.H.l[i]? = some x)) (hx1 : 0 ≤ x.u) (hx2 : x.u ≤ 1000000000000000) (hx3 : 0 ≤ x.s) (hx4 : x.s ≤ x.u) (hge : n ≤ x.u - x.s)
    (HNIL : Hid (p.N.l = [])) (B : Nat) (hBB : B ≤ w.heap.size) (hFN : ∀ y ∈ p.N.l, Rd (· < B) 1 ienc w y.af) :
    Calls Try.prog 25 #[p.v, .int .i64 k, .int .i64 n, .int .i64 t, .string tx] w fun e w' => ∃ p' : Phone, e = .returned (.tuple #[p'.v, .int .i64 0]) ∧ p'.d = { p.d with H := p.d.H.set i { x with s := x.s + n }, N := p.d.N ++ [⟨p.id, p.N.l.length, p.S.l, t, tx⟩] } ∧ RdPhone (fun b => b < B ∨ (w.heap.size ≤ b ∧ b < w'.heap.size)) w' p' ∧ Below w.heap.size w w' := by
  have hn1 := rngB_iff.1 h1
  have HFN := Lib.hid hFN
  clear hFN
  have hfull' : decide ((10000 : Int) ≤ (p.N.l.length : Int)) = false := by rw [HNIL.out]; rfl
  have hz : ¬ ((0 : Int) < (p.N.l.length : Int)) := by rw [HNIL.out]; simp
  have hz2 : ¬ (0 < p.N.l.length) := by rw [HNIL.out]; simp
  obtain ⟨id, cut, H, N, S⟩ := p
  have HR := Lib.hid hr
  clear hr
  simp only [Phone.v]
  go_enter Try.func25, Try.ntmps25
  go_wp2_with fail
  refine (rright43 ⟨id, cut, H, N, S⟩ _ (HR.out.later qbl (Nat.le_refl _))).mono ?_
  rintro e w1 ⟨rfl, hb1⟩
  rw [HF.out]
  have K_a : Blk _ (w.heap.size) 26 #[.int .i64 id, .bool cut, .slice H.A H.l.length H.c, .slice N.A N.l.length N.c, .slice S.A S.l.length S.c] := qkb hb1
  obtain ⟨a0, a1, a2, a3, a4, af, az⟩ := Blk.b5 K_a
  have B_a := Lib.hid K_a
  clear K_a
  have K_b : Blk _ (w.heap.size + 1) 26 #[.int .i64 0, .bool false, .slice none 0 0, .slice none 0 0, .slice none 0 0] := qkb hb1
  obtain ⟨b0, b1, b2, b3, b4, bf, bz⟩ := Blk.b5 K_b
  have B_b := Lib.hid K_b
  clear K_b
  have hB1 : Below w.heap.size w w1 := qbv
  clear hb1
  go_wp2_with (go_at_call 54; refine (in43_any _ _ _ _).mono ?_; rintro e w' ⟨rfl, rfl⟩)
  refine (rat43 ⟨id, cut, H, N, S⟩ k _ (HR.out.later hB1 (Nat.le_refl _)).1).mono ?_
  rintro e w2 ⟨rfl, hb2⟩
  simp only
  rw [HFK.out]
  clear a0 a1 a2 a3 a4 af b0 b1 b2 b3 b4 bf
  have K_a : Blk _ (w.heap.size) 26 #[.int .i64 id, .bool cut, .slice H.A H.l.length H.c, .slice N.A N.l.length N.c, .slice S.A S.l.length S.c] := qkc B_a hb2
  obtain ⟨a0, a1, a2, a3, a4, af, az⟩ := Blk.b5 K_a
  have B_a := Lib.hid K_a
  clear K_a
  have K_b : Blk _ (w.heap.size + 1) 26 #[.int .i64 0, .bool false, .slice none 0 0, .slice none 0 0, .slice none 0 0] := qkc B_b hb2
  obtain ⟨b0, b1, b2, b3, b4, bf, bz⟩ := Blk.b5 K_b
  have B_b := Lib.hid K_b
  clear K_b
  have hB2 : Below w.heap.size w w2 := qbv
  clear hb2
  try simp only at hfull' hz hz2
  obtain ⟨b2', o2', hA2, hF2, hcl2⟩ := HR.out.1.2.2.2 _ x HX.out
  have hxi : i < H.l.length := (List.getElem?_eq_some_iff.1 HX.out).1
  simp only at hA2
  have hcl2 := hcl2.keep (hB2.block b2' hF2)
  obtain ⟨h0, h1', h2'⟩ := Cells.c3 hcl2
  clear hcl2
  try simp only at a2
  rw [hA2] at a2
  have HA2 := Lib.hid hA2
  clear hA2
  go_wp2_with fail
  go_quiet (fail)
  go_wp2_with fail
  rw [← HA2.out]
  refine (rcopied43_r ⟨id, cut, H, N, S⟩ _ (HR.out.later qbv (Nat.le_refl _)) HF.out).mono ?_
  rintro e w3 ⟨HA', Hc', NA', Nc', SA', Sc', rfl, oH, oN, oS, aHN, aHS, aNS, hb3⟩
  have hnl2 : N.l.length ≤ 10000 := Phone.nle HF.out
  have hsl2 : S.l.length = 12 := Phone.sle HF.out
  have HSL := Lib.hid hsl2
  clear hsl2
  clear a0 a1 a2 a3 a4 af b0 b1 b2 b3 b4 bf h0 h1' h2'
  have K_a : Blk _ (w.heap.size) 26 #[.int .i64 id, .bool cut, .slice H.A H.l.length H.c, .slice N.A N.l.length N.c, .slice S.A S.l.length S.c] := qkc B_a hb3
  obtain ⟨a0, a1, a2, a3, a4, af, az⟩ := Blk.b5 K_a
  have B_a := Lib.hid K_a
  clear K_a
  have K_b : Blk _ (w.heap.size + 1) 26 #[.int .i64 0, .bool false, .slice none 0 0, .slice none 0 0, .slice none 0 0] := qkc B_b hb3
  obtain ⟨b0, b1, b2, b3, b4, bf, bz⟩ := Blk.b5 K_b
  have B_b := Lib.hid K_b
  clear K_b
  have hB3 : Below w.heap.size w w3 := qbv
  have z3 : w2.heap.size ≤ w3.heap.size := hb3.size
  clear hb3
  have HNF : Hid (RdNotes (· < w.heap.size) w3 N) := Lib.hid (HR.out.2.1.keep fun b hb => hB3.block b hb)
  obtain ⟨g, hg, hgl, hgu, hcl, gf⟩ := oH.atk Hold.k (i := i) (x := x) HX.out
  simp only at hg
  subst hg
  have hgl : w2.heap.size ≤ g := hgl
  obtain ⟨g0, g1, g2⟩ := Cells.c3 hcl
  clear hcl
  have HOH := Lib.hid oH
  have HON := Lib.hid oN
  have HOS := Lib.hid oS
  have HAP := Lib.hid (And.intro aHN (And.intro aHS aNS))
  clear oH oN oS aHN aHS aNS
  simp only [Phone.v]
  go_wp2_with fail
  have hne1 : g ≠ w.heap.size := by omega
  have hne2 : g ≠ w.heap.size + 1 := by omega
  have hne3 : g ≠ w3.heap.size := by omega
  have ane1 : w.heap.size ≠ g := by omega
  have ane2 : w.heap.size + 1 ≠ g := by omega
  have ane3 : w3.heap.size ≠ g := by omega
  have hxi1 : (i : Int) < (H.l.length : Int) := by omega
  have hxi0 : (0 : Int) ≤ (i : Int) := by omega
  have hws : IntKind.i64.wrap (x.s + n) = x.s + n := by rw [IntKind.wrap_i64]; omega
  refine wp_region_T (fun w' => w'.cell? ⟨w3.heap.size, 2, none⟩ = some (.slice (some ⟨g, 0, none⟩) H.l.length Hc') ∧ w'.cell? ⟨g, i * 3 + 2, none⟩ = some (.int .i64 x.s)) (fun i => 11 ≤ i) (by kernel_rfl) ⟨(Blk.new' (by simp)).cell 2, kalloc _ g2⟩ (fun hHeld => ?_)
  refine qtq 0 ?_
  simp only [qsa, qsb, qsc]
  refine qtq 1 ?_
  simp only [qsa, qsb, qsc]
  refine qtq 2 ?_
  simp only [qsa, qsb, qsc]
  refine qtq 3 ?_
  simp only [qsa, qsb, qsc]
  refine qtq 4 ?_
  simp only [qsa, qsb, qsc]
  refine qtq 5 ?_
  simp only [qsa, qsb, qsc]
  refine qtq 6 ?_
  simp only [qsa, qsb, qsc]
  refine qtq 7 ?_
  simp only [qsa, qsb, qsc]
  refine qtq 8 ?_
  simp only [qsa, qsb, qsc]
  refine qtq 9 ?_
  simp only [qsa, qsb, qsc]
  refine qtq 10 ?_
  simp only [qsa, qsb, qsc]
  clear hHeld
  refine wpAnyT_next (i := 11) (by kernel_rfl) rfl ?_
  go_wp2_with fail
  try simp only [QT]
  try (with_reducible refine And.intro (fun h => by simp at h) ?_)
  refine wpAnyT_next (i := 12) (by kernel_rfl) rfl ?_
  go_wp2_with fail
  try simp only [QT]
  try (with_reducible refine And.intro (fun h => by simp at h) ?_)
  refine wpAnyT_next (i := 13) (by kernel_rfl) rfl ?_
  go_wp2_with fail
  try simp only [QT]
  try (with_reducible refine And.intro (fun h => by simp at h) ?_)
  refine wpAnyT_done (by kernel_rfl) ?_ _
  go_wp2_with fail
  obtain ⟨w4, hw4⟩ : ∃ z, z = (((w3.setCell ⟨g, i * 3 + 2, none⟩ (.int .i64 (x.s + n))).alloc (.cells #[.int .i64 id, .bool cut, .slice (some ⟨g, 0, none⟩) H.l.length Hc', .slice NA' N.l.length Nc', .slice SA' S.l.length Sc'] 26)).drew) := ⟨_, rfl⟩
  rw [← hw4]
  clear a0 a1 a2 a3 a4 af b0 b1 b2 b3 b4 bf g0 g1 g2 gf
  have B_a4 : Hid (Blk w4 w.heap.size 26 #[.int .i64 id, .bool cut, .slice H.A H.l.length H.c, .slice N.A N.l.length N.c, .slice S.A S.l.length S.c]) := Lib.hid (by rw [hw4]; exact (B_a.out.far (p := ⟨g, i * 3 + 2, none⟩) ane1 _).alloc _)
  have B_b4 : Hid (Blk w4 (w.heap.size + 1) 26 #[.int .i64 0, .bool false, .slice none 0 0, .slice none 0 0, .slice none 0 0]) := Lib.hid (by rw [hw4]; exact (B_b.out.far (p := ⟨g, i * 3 + 2, none⟩) ane2 _).alloc _)
  have B_d4 : Hid (Blk w4 w3.heap.size 26 #[.int .i64 id, .bool cut, .slice (some ⟨g, 0, none⟩) H.l.length Hc', .slice NA' N.l.length Nc', .slice SA' S.l.length Sc']) := Lib.hid (by rw [hw4]; exact Blk.new' (by simp))
  have HH4 := Lib.hid (show Own w2.heap.size 59 3 Hold.enc w4 ⟨some ⟨g, 0, none⟩, Hc', H.l.set i { x with s := x.s + n }⟩ from by rw [hw4]; exact (((HOH.out.set Hold.k rfl HX.out (j := 2) (y := { x with s := x.s + n }) (u := .int .i64 (x.s + n)) (by omega) rfl)).alloc _).drew)
  have HN4 := Lib.hid (show Own w2.heap.size 61 5 Note.enc w4 ⟨NA', Nc', N.l⟩ from by rw [hw4]; exact ((HON.out.other (a := ⟨g, i * 3 + 2, none⟩) (fun g' h => Ne.symm (HAP.out.1 g g' rfl h)) (.int .i64 (x.s + n))).alloc _).drew)
  have HS4 := Lib.hid (show Own w2.heap.size 3 1 ienc w4 ⟨SA', Sc', S.l⟩ from by rw [hw4]; exact ((HOS.out.other (a := ⟨g, i * 3 + 2, none⟩) (fun g' h => Ne.symm (HAP.out.2.1 g g' rfl h)) (.int .i64 (x.s + n))).alloc _).drew)
  have hB4 : Below w.heap.size w w4 := by rw [hw4]; exact qbv
  have z4 : w4.heap.size ≤ w3.heap.size + 1 := by rw [hw4]; simp [World.drew]
  have z4' : w3.heap.size + 1 ≤ w4.heap.size := by rw [hw4]; simp [World.drew]
  have HUN := Lib.hid HON.out.bound
  have HUS := Lib.hid HOS.out.bound
  clear hw4 HOH HON HOS B_a B_b HNF
  obtain ⟨a0, a1, a2, a3, a4, af, az4⟩ := B_a4.out.b5
  obtain ⟨b0, b1, b2, b3, b4, bf, bz4⟩ := B_b4.out.b5
  obtain ⟨d0, d1, d2, d3, d4, df, dz4⟩ := B_d4.out.b5
  refine wp_region_T (fun w' => w'.cell? ⟨w3.heap.size, 3, none⟩ = some (.slice NA' N.l.length Nc') ∧ w'.cell? ⟨w.heap.size, 0, none⟩ = some (.int .i64 id) ∧ w'.cell? ⟨w.heap.size, 4, none⟩ = some (.slice S.A S.l.length S.c)) (fun i => 14 ≤ i) (by kernel_rfl) ⟨d3, a0, a4⟩ (fun hHeld => ?_)
  refine qtq 0 ?_
  simp only [qsa, qsb, qsc]
  refine qtq 1 ?_
  simp only [qsa, qsb, qsc]
  refine qtq 2 ?_
  simp only [qsa, qsb, qsc]
  refine qtq 3 ?_
  simp only [qsa, qsb, qsc]
  refine qtq 4 ?_
  simp only [qsa, qsb, qsc]
  refine qtq 6 ?_
  simp only [qsa, qsb, qsc]
  refine qtq 7 ?_
  simp only [qsa, qsb, qsc]
  refine qtq 9 ?_
  simp only [qsa, qsb, qsc]
  refine qtq 10 ?_
  simp only [qsa, qsb, qsc]
  clear hHeld
  refine wpAnyT_next (i := 5) (by kernel_rfl) rfl ?_
  go_wp2_with fail
  have hHeld := fun o => And.intro (kalloc (w := w4) o d3) (And.intro (kalloc (w := w4) o a0) (kalloc (w := w4) o a4))
  refine ⟨by first | exact hHeld _ | exact fun _ => hHeld _, ?_⟩
  clear hHeld
  refine wpAnyT_next (i := 8) (by kernel_rfl) rfl ?_
  refine wpl_append_sl _ rfl (.tmp 94) (.tmp 96) _ rfl Try.underlying24 infoInt (by omega) ienc_k ienc_one ⟨some ⟨w4.heap.size, 0, none⟩, 0, []⟩ S rfl rfl (Own.lit0 ienc_k (base := w4.heap.size) (by rfl) (by simp)) (HR.out.2.2.below' qbv (Nat.le_refl _)) (by have := HR.out.2.2.len; simp [maxLen] at this ⊢; omega) (by have := HSL.out; simp; omega) (by simp; try omega) ?_
  intro A5 c5 w5 hown5 hg5 hat5
  simp only [List.nil_append] at hown5
  clear a0 a1 a2 a3 a4 af b0 b1 b2 b3 b4 bf d0 d1 d2 d3 d4 df
  have hr1 : w4.heap.size ≠ w.heap.size := by omega
  have hr2 : w4.heap.size ≠ w.heap.size + 1 := by omega
  have hr3 : w4.heap.size ≠ w3.heap.size := by omega
  have K_a : Blk _ (w.heap.size) 26 #[.int .i64 id, .bool cut, .slice H.A H.l.length H.c, .slice N.A N.l.length N.c, .slice S.A S.l.length S.c] := blk_grown hg5 (by simp [hp_past, hp_at, hp_other, hp_same, hp_drew, hp_drewN, B_a4.out.eq, B_a4.out.lt, hp_same B_a4.out.eq]) (by simp [Value.ownBlock, hr1])
  obtain ⟨a0, a1, a2, a3, a4, af, az⟩ := Blk.b5 K_a
  have B_a := Lib.hid K_a
  clear K_a
  have K_b : Blk _ (w.heap.size + 1) 26 #[.int .i64 0, .bool false, .slice none 0 0, .slice none 0 0, .slice none 0 0] := blk_grown hg5 (by simp [hp_past, hp_at, hp_other, hp_same, hp_drew, hp_drewN, B_b4.out.eq, B_b4.out.lt, hp_same B_b4.out.eq]) (by simp [Value.ownBlock, hr2])
  obtain ⟨b0, b1, b2, b3, b4, bf, bz⟩ := Blk.b5 K_b
  have B_b := Lib.hid K_b
  clear K_b
  have K_d : Blk _ (w3.heap.size) 26 #[.int .i64 id, .bool cut, .slice (some ⟨g, 0, none⟩) H.l.length Hc', .slice NA' N.l.length Nc', .slice SA' S.l.length Sc'] := blk_grown hg5 (by simp [hp_past, hp_at, hp_other, hp_same, hp_drew, hp_drewN, B_d4.out.eq, B_d4.out.lt, hp_same B_d4.out.eq]) (by simp [Value.ownBlock, hr3])
  obtain ⟨d0, d1, d2, d3, d4, df, dz⟩ := Blk.b5 K_d
  have B_d := Lib.hid K_d
  clear K_d
  have hB5 : Below w.heap.size w w5 := Below.grown qbv hg5 (by simp; omega) (fun j hj => by simp [Value.ownBlock] at hj; omega)
  have hlt5 : w4.heap.size + 1 ≤ w5.heap.size := by have := hg5.size; simpa [World.drew] using this
  have hH5 : Own w2.heap.size 59 3 Hold.enc w5 ⟨some ⟨g, 0, none⟩, Hc', H.l.set i { x with s := x.s + n }⟩ := ((HH4.out.alloc _).drew).kept hg5 (.inr (own_ne2 (by show _ ≠ w4.heap.size; omega)))
  have hN5 : Own w2.heap.size 61 5 Note.enc w5 ⟨NA', Nc', N.l⟩ := ((HN4.out.alloc _).drew).kept hg5 (.inr (own_ne HN4.out (.inr (fun q h => Nat.lt_of_lt_of_le (HUN.out q h) (by show _ ≤ w4.heap.size; omega)))))
  have hS5 : Own w2.heap.size 3 1 ienc w5 ⟨SA', Sc', S.l⟩ := ((HS4.out.alloc _).drew).kept hg5 (.inr (own_ne HS4.out (.inr (fun q h => Nat.lt_of_lt_of_le (HUS.out q h) (by show _ ≤ w4.heap.size; omega)))))
  have HO5 := Lib.hid hown5
  have HH5 := Lib.hid hH5
  have HN5 := Lib.hid hN5
  have HS5 := Lib.hid hS5
  clear hg5 hown5 hat5 hH5 hN5 hS5
  go_wp2_with fail
  have hHeld := And.intro d3 (And.intro a0 a4)
  refine ⟨by first | exact hHeld | exact fun _ => hHeld, ?_⟩
  refine qtq 11 ?_
  simp only [qsa, qsb, qsc]
  clear hHeld
  refine wpAnyT_next (i := 12) (by kernel_rfl) rfl ?_
  go_wp2_with fail
  have hHeld := fun o => And.intro (kalloc (w := w5) o d3) (And.intro (kalloc (w := w5) o a0) (kalloc (w := w5) o a4))
  refine ⟨by first | exact hHeld _ | exact fun _ => hHeld _, ?_⟩
  clear hHeld
  have hb64 : (N.l.length + 1) * 64 ≤ 140737488355328 := Nat.le_trans (Nat.mul_le_mul_right 64 (Nat.succ_le_succ hnl2)) (by decide)
  have hb63 : N.l.length + 1 ≤ maxLen := Nat.le_trans (Nat.succ_le_succ hnl2) (by decide)
  refine wpAnyT_next (i := 13) (by kernel_rfl) rfl ?_
  refine wpl_append_sl _ rfl (.tmp 90) (.tmp 101) _ rfl Try.underlying23 infoNote (by omega) Note.k Note.one ⟨NA', Nc', N.l⟩ ⟨some ⟨w5.heap.size, 0, none⟩, 1, [⟨id, N.l.length, ⟨A5, c5, S.l⟩, t, tx⟩]⟩ rfl rfl (HN5.out.alloc _) ((Own.lit (base := w5.heap.size) w5 _ [⟨id, N.l.length, ⟨A5, c5, S.l⟩, t, tx⟩] (Nat.le_refl _) (by simp [maxLen]) rfl Note.k).rd Note.k) hb63 hb64 (by simp; omega) ?_
  intro A6 c6 w6 hown6 hg6 hat6
  clear a0 a1 a2 a3 a4 af b0 b1 b2 b3 b4 bf d0 d1 d2 d3 d4 df
  have hN2 := HN5.out
  have hrow := fun b hb => Own.row_ne hN2 HUN.out b hb
  have K_a : Blk _ (w.heap.size) 26 #[.int .i64 id, .bool cut, .slice H.A H.l.length H.c, .slice N.A N.l.length N.c, .slice S.A S.l.length S.c] := blk_grown hg6 (by simp [hp_past, hp_at, hp_other, hp_same, hp_drew, hp_drewN, B_a.out.eq, B_a.out.lt, hp_same B_a.out.eq]) (own_ne hN2 (.inl (by omega)))
  obtain ⟨a0, a1, a2, a3, a4, af, az⟩ := Blk.b5 K_a
  have B_a := Lib.hid K_a
  clear K_a
  have K_b : Blk _ (w.heap.size + 1) 26 #[.int .i64 0, .bool false, .slice none 0 0, .slice none 0 0, .slice none 0 0] := blk_grown hg6 (by simp [hp_past, hp_at, hp_other, hp_same, hp_drew, hp_drewN, B_b.out.eq, B_b.out.lt, hp_same B_b.out.eq]) (own_ne hN2 (.inl (by omega)))
  obtain ⟨b0, b1, b2, b3, b4, bf, bz⟩ := Blk.b5 K_b
  have B_b := Lib.hid K_b
  clear K_b
  have K_d : Blk _ (w3.heap.size) 26 #[.int .i64 id, .bool cut, .slice (some ⟨g, 0, none⟩) H.l.length Hc', .slice NA' N.l.length Nc', .slice SA' S.l.length Sc'] := blk_grown hg6 (by simp [hp_past, hp_at, hp_other, hp_same, hp_drew, hp_drewN, B_d.out.eq, B_d.out.lt, hp_same B_d.out.eq]) (own_ne hN2 (.inr HUN.out))
  obtain ⟨d0, d1, d2, d3, d4, df, dz⟩ := Blk.b5 K_d
  have B_d := Lib.hid K_d
  clear K_d
  have hB6 : Below w.heap.size w w6 := Below.grown qbv hg6 (by simp; omega) (fun j hj => by
    rcases hN2.form with ⟨h0, _⟩ | ⟨g', h0, h1, _⟩
    · simp only at h0; rw [h0] at hj; simp [Value.ownBlock] at hj
    · simp only at h0; rw [h0] at hj; simp [Value.ownBlock] at hj; omega)
  have hlt6 : w5.heap.size + 1 ≤ w6.heap.size := by have := hg6.size; simpa using this
  have HFIN : Hid (RdPhone (fun b => b < B ∨ (w.heap.size + 2 ≤ b ∧ b ≠ w3.heap.size ∧ b < w6.heap.size)) w6 ⟨id, cut, ⟨some ⟨g, 0, none⟩, Hc', H.l.set i { x with s := x.s + n }⟩, ⟨A6, c6, N.l ++ [⟨id, N.l.length, ⟨A5, c5, S.l⟩, t, tx⟩]⟩, ⟨SA', Sc', S.l⟩⟩) := Lib.hid (by
    refine ⟨?_, ⟨?_, ?_⟩, ?_⟩
    · refine Rd.mono (((HH5.out.alloc _).kept hg6 (Own.apart_ne HH5.out hN2 HAP.out.1)).rdP Hold.k (P := fun b => b < w3.heap.size) (fun g' h => by injection h with h; injection h with h; omega)) (fun b hb => by omega)
    · refine Rd.mono (hown6.rdP Note.k (P := fun b => b ≠ w3.heap.size) (fun g' h => ?_)) (fun b hb => by omega)
      rcases hat6 with h' | h'
      · have := HUN.out g' (h'.symm.trans h); omega
      · simp only at h; rw [h'] at h; injection h with h; injection h with h; simp at h; omega
    · intro y' hy'
      rcases List.mem_append.1 hy' with hy' | hy'
      · refine Rd.mono ((HFN.out y' hy').keep fun b hb => hB6.block b (by omega)) (fun b hb => by omega)
      · have := List.mem_singleton.1 hy'
        subst this
        refine Rd.mono (F := fun b => w4.heap.size ≤ b ∧ b < w5.heap.size) ?_ (fun b hb => by omega)
        exact (HO5.out.rd ienc_k).keep (fun b hb => (hg6.block b (by simp; omega) (hrow b (by omega))).trans (Below.heap_alloc _ _ b (by omega)))
    · refine Rd.mono (((HS5.out.alloc _).kept hg6 (Own.apart_ne HS5.out hN2 (fun a b h1 h2 => Ne.symm (HAP.out.2.2 b a h2 h1)))).rdP ienc_k (P := fun b => b < w3.heap.size) (fun g' h => HUS.out g' h)) (fun b hb => by omega))
  clear hown6 hg6 hat6 hN2 hrow
  go_wp2_with fail
  have hHeld := And.intro d3 (And.intro a0 a4)
  refine ⟨by first | exact hHeld | exact fun _ => hHeld, ?_⟩
  clear hHeld
  refine wpAnyT_next (i := 14) (by kernel_rfl) rfl ?_
  go_wp2_with fail
  try simp only [QT]
  try (with_reducible refine And.intro (fun h => by simp at h) ?_)
  refine wpAnyT_next (i := 15) (by kernel_rfl) rfl ?_
  go_wp2_with fail
  try simp only [QT]
  try (with_reducible refine And.intro (fun h => by simp at h) ?_)
  refine wpAnyT_done (by kernel_rfl) ?_ _
  go_wp2_with fail
  try simp only [Exit.inBlock, Exit.then]
  refine bodyPost_ret (v := .tuple #[.agg #[.int .i64 id, .bool cut, .slice (some ⟨g, 0, none⟩) H.l.length Hc', .slice A6 (N.l.length + 1) c6, .slice SA' S.l.length Sc'], .int .i64 0]) ?_ rfl ⟨⟨id, cut, ⟨some ⟨g, 0, none⟩, Hc', H.l.set i { x with s := x.s + n }⟩, ⟨A6, c6, N.l ++ [⟨id, N.l.length, ⟨A5, c5, S.l⟩, t, tx⟩]⟩, ⟨SA', Sc', S.l⟩⟩, by simp, by simp [Phone.d, Note.d], ?_, qbv⟩
  simp [results, Try.results25, go_sem, a0, a1, a2, a3, a4, af, b0, b1, b2, b3, b4, bf, d0, d1, d2, d3, d4, df, az, bz, dz]
  refine RdPhone.mono (F := fun b => b < B ∨ (w.heap.size + 2 ≤ b ∧ b ≠ w3.heap.size ∧ b < w6.heap.size)) ?_ (fun b hb => by simp; omega)
  repeat (first | (with_reducible exact HFIN.out) | ((with_reducible refine RdPhone.setr ?_ ?_); focus (first | (simp; done) | (simp; omega))))
theorem rpromise (p : Phone) (k n t : Int) (tx : ByteArray) (w : World) (hr : RdPhone (· < w.heap.size) w p) (B : Nat) (hBB : B ≤ w.heap.size) (hFN : ∀ y ∈ p.N.l, Rd (· < B) 1 ienc w y.af) :
    Calls Try.prog 25 #[p.v, .int .i64 k, .int .i64 n, .int .i64 t, .string tx] w fun e w' => ∃ p' : Phone, e = .returned (.tuple #[p'.v, .int .i64 (p.d.promise k n t tx).2]) ∧ p'.d = (p.d.promise k n t tx).1 ∧ Hid (p' = p ∨ RdPhone (fun b => b < B ∨ (w.heap.size ≤ b ∧ b < w'.heap.size)) w' p') ∧ Below w.heap.size w w' := by
  have back : ∀ {q : Int}, p.d.promise k n t tx = (p.d, q) → Calls Try.prog 25 #[p.v, .int .i64 k, .int .i64 n, .int .i64 t, .string tx] w (fun e w' => e = .returned (.tuple #[p.v, .int .i64 q]) ∧ Below w.heap.size w w') →
      Calls Try.prog 25 #[p.v, .int .i64 k, .int .i64 n, .int .i64 t, .string tx] w fun e w' => ∃ p' : Phone, e = .returned (.tuple #[p'.v, .int .i64 (p.d.promise k n t tx).2]) ∧ p'.d = (p.d.promise k n t tx).1 ∧ Hid (p' = p ∨ RdPhone (fun b => b < B ∨ (w.heap.size ≤ b ∧ b < w'.heap.size)) w' p') ∧ Below w.heap.size w w' := by
    intro q hq hc
    rw [hq]
    refine hc.mono ?_
    rintro e w' ⟨rfl, hb⟩
    exact ⟨p, rfl, rfl, .inl rfl, hb⟩
  rcases hf : okPro p.d n t tx
  · exact back (by unfold PhoneD.promise; rw [hf]; rfl) (rpromise_no p k n t tx w hr hf)
  · have hf' := hf
    simp only [okPro, Bool.and_eq_true, decide_eq_true_eq] at hf'
    obtain ⟨hF, h1, h2, h3⟩ := hf'
    have hR := PhoneD.right_iff hF
    obtain ⟨_, hso, hal⟩ := holdsR_iff hR.H
    rcases hh : hhas p.H.l k
    · refine back ?_ (rpromise_none p k n t tx w hr hF h1 h2 h3 (Lib.hid (findK_none hh)))
      unfold PhoneD.promise
      rw [hf, if_pos rfl]
      have hh' : hhas p.d.H k = false := hh
      split <;> simp [hh']
    · obtain ⟨x, hx, _⟩ := hidx_at hso hh
      have HFK : Hid (findK Hold.st k 0 p.H.l = (hidx p.H.l k : Int)) := Lib.hid (by have h : findK Hold.st k 0 p.H.l = _ := findK_at hso hh; rw [h]; simp [hidx, Phone.d])
      have hx' : p.d.H[hidx p.d.H k]? = some x := hx
      have hh' : hhas p.d.H k = true := hh
      obtain ⟨_, x1, x2, x3, x4⟩ := hal x (List.mem_of_getElem? hx)
      have hpro : p.d.promise k n t tx = if x.u - x.s < n then (p.d, 21) else if lateN p.d.N t then (p.d, 19) else if p.d.N.length = 10000 then (p.d, 6)
           else ({ p.d with H := p.d.H.set (hidx p.d.H k) { x with s := x.s + n }, N := p.d.N ++ [⟨p.d.id, p.d.N.length, p.d.S, t, tx⟩] }, 0) := by
        unfold PhoneD.promise
        rw [hf, if_pos rfl, hx']
        simp only [hh', if_true]
      rcases Int.lt_or_le (x.u - x.s) n with h | h
      · exact back (by rw [hpro, if_pos h]) (rpromise_few p k n t tx _ x w hr hF h1 h2 h3 HFK hx (by omega) x2 x3 x4 h)
      · rcases hN : p.N.l with _ | ⟨y0, r⟩
        · have hl : lateN p.d.N t = false := by simp [Phone.d, hN, lateN]
          have hl2 : ¬ p.d.N.length = 10000 := by simp [Phone.d, hN]
          rw [hpro, if_neg (Int.not_lt.2 h), hl, if_neg (by simp), if_neg hl2]
          refine (rpromise_ok2 p k n t tx _ x w hr hF h1 h2 h3 HFK hx (by omega) x2 x3 x4 h hN B hBB hFN).mono ?_
          rintro e w' ⟨p', rfl, hd, hrd, hb⟩
          refine ⟨p', rfl, ?_, .inr hrd, hb⟩
          rw [hd]; simp [Phone.d]
        · obtain ⟨m, hm⟩ : ∃ m, p.N.l.length = m + 1 := ⟨r.length, by rw [hN]; rfl⟩
          have hy : p.N.l[m]? = some (p.N.l[m]'(by omega)) := List.getElem?_eq_getElem (by omega)
          generalize p.N.l[m]'(by omega) = y at hy
          have hlast : p.d.N.getLast? = some y.d := by
            simp only [Phone.d]
            rw [List.getLast?_eq_getElem?, List.length_map, hm, List.getElem?_map]
            simp [hy]
          have hln : lateN p.d.N t = decide (t < y.tm) := by simp [lateN, hlast, Note.d]
          rcases Int.lt_or_le t y.tm with h' | h'
          · exact back (by rw [hpro, if_neg (Int.not_lt.2 h), hln, if_pos (by simpa using h')]) (rpromise_late p k n t tx _ x w hr hF h1 h2 h3 HFK hx (by omega) x2 x3 x4 h m y hm hy h')
          · by_cases hfu : p.N.l.length = 10000
            · exact back (by rw [hpro, if_neg (Int.not_lt.2 h), hln, if_neg (by simpa using h'), if_pos (by simpa [Phone.d] using hfu)]) (rpromise_full p k n t tx _ x w hr hF h1 h2 h3 HFK hx (by omega) x2 x3 x4 h m y hm hy h' hfu)
            · rw [hpro, if_neg (Int.not_lt.2 h), hln, if_neg (by simpa using h'), if_neg (by simpa [Phone.d] using hfu)]
              refine (rpromise_ok1 p k n t tx _ x w hr hF h1 h2 h3 HFK hx (by omega) x2 x3 x4 h m y hm hy h' hfu B hBB hFN).mono ?_
              rintro e w' ⟨p', rfl, hd, hrd, hb⟩
              refine ⟨p', rfl, ?_, .inr hrd, hb⟩
              rw [hd]; simp [Phone.d]
end Go.Proofs.Ythnblhbdfpmolaa
