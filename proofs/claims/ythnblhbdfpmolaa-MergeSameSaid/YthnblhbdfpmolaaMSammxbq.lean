/- The walk of MergeSame: it returns true. -/
import Derived.Test.YthnblhbdfpmolaaMSammxbn
import Derived.Test.YthnblhbdfpmolaaMSammxbp
namespace Go.Proofs.Ythnblhbdfpmolaa
open Go.RowKit
theorem cutS {G : Prop} (T : Prop) (main : T → G) (fin : T) : G := main fin
theorem lists_at {s t : Sl Note} {w : World} {b : Bool} (hr : RdNotes (· < w.heap.size) w s) (ht : RdNotes (· < w.heap.size) w t) (h : listsN (s.l.map Note.d) (t.l.map Note.d) = b) :
    Calls Try.prog 30 #[.slice s.A s.l.length s.c, .slice t.A t.l.length t.c] w fun e w' => e = .returned (.bool b) ∧ Below w.heap.size w w' := by
  subst h
  exact rlists s t w hr ht
theorem hasN_two {a b r : List NoteD} (h : MgdN a b r) {x : NoteD} (hx : x ∈ r) (h1 : hasN a x = false) : hasN b x = true := by
  rcases h.mem x hx with h' | h'
  · rw [hasN_mem h'] at h1; cases h1
  · exact hasN_mem h'
theorem sorted_at {r : List NoteD} (h : r.Pairwise LtN) {i : Nat} (hi : i + 1 < r.length) : ¬ r[i + 1].dev < r[i].dev ∧ (r[i].dev = r[i + 1].dev → ¬ r[i + 1].seq ≤ r[i].seq) := by
  have := (List.pairwise_iff_getElem.1 h) i (i + 1) (by omega) hi (by omega)
  unfold LtN at this
  rw [lessN_iff] at this
  omega
/-- All that MergeSame asks of the six lists. -/
structure SixN (A B C M N T O Q S : List NoteD) (e f g h i k : Int) : Prop where
  comm : f = e
  cl : listsN M N = true
  no : e ≠ 0 → M = [] ∧ (e = 1 ∨ e = 23)
  idem : e = 0 → g = 0 ∧ listsN M T = true
  as1 : e = 0 → h = 0 → i = 0 ∧ k = 0 ∧ listsN O S = true
  as2 : e = 0 → i = 0 → k = 0 → h = 0
  ok : e = 0 → MgdN A B M
theorem six {A B C M N T O Q S : List NoteD} (hM : M = (mergeN A B).1) (hN : N = (mergeN B A).1) (hT : T = (mergeN M M).1) (hO : O = (mergeN M C).1) (hQ : Q = (mergeN B C).1) (hS : S = (mergeN A Q).1) (hl : A.length + B.length + C.length ≤ 10000) :
    SixN A B C M N T O Q S (mergeN A B).2 (mergeN B A).2 (mergeN M M).2 (mergeN M C).2 (mergeN B C).2 (mergeN A Q).2 := by
  subst hM hN hT hO hQ hS
  exact {
    comm := (merge_comm A B).1.symm
    cl := (merge_comm A B).2
    no := fun h => merge_no_list h
    idem := fun h => merge_idem h (by omega)
    as1 := fun h => (merge_assoc h hl).1
    as2 := fun h => (merge_assoc h hl).2
    ok := fun h => merge_zero h }
set_option maxRecDepth 100000 in
/-- The values that no one reads any more may be anything. -/
theorem gen38 {c : Code} {Q : Exit → Act → World → Prop} {dd : List Deferred} {w : World} {x0 x1 x2 x3 x4 x5 x6 x7 x8 x9 x10 x11 x12 x13 x14 x15 x16 x17 x18 x19 x20 x21 x22 x23 x24 x25 x26 x27 x28 x29 x30 x31 x32 x33 x34 x35 x36 x37 x38 x39 x40 x41 x42 x43 x44 x45 x46 x47 x48 x49 x50 x51 x52 x53 x54 x55 x56 x57 x58 x59 x60 x61 x62 x63 x64 x65 x66 x67 x68 x69 x70 x71 x72 x73 x74 x75 x76 x77 x78 x79 x80 x81 x82 x83 x84 x85 x86 x87 x88 x89 x90 x91 x92 x93 x94 x95 x96 x97 x98 x99 x138 x139 x140 x141 x142 x143 x144 x145 x146 x147 x148 x149 x150 x151 x152 x153 x154 x155 x156 x157 x158 x159 x160 x161 x162 x163 x164 x165 x166 x167 x168 x169 x170 x171 x172 x173 x174 x175 x176 x177 x178 x179 x180 x181 x182 x183 x184 x185 x186 x187 x188 x189 x190 x191 x192 x193 x194 x195 x196 x197 x198 x199 x200 x201 x202 x203 x204 x205 x206 x207 x208 x209 x210 x211 x212 x213 x214 x215 x216 x217 x218 x219 x220 x221 x222 x223 x224 x225 x226 y100 y101 y102 y103 y104 y105 y106 y107 y108 y109 y110 y111 y112 y113 y114 y115 y116 y117 y118 y119 y120 y121 y122 y123 y124 y125 y126 y127 y128 y129 y130 y131 y132 y133 y134 y135 y136 y137 : Value} (h : ∀ v100 v101 v102 v103 v104 v105 v106 v107 v108 v109 v110 v111 v112 v113 v114 v115 v116 v117 v118 v119 v120 v121 v122 v123 v124 v125 v126 v127 v128 v129 v130 v131 v132 v133 v134 v135 v136 v137 : Value, Code.wp Try.prog c Q { tmps := List.toArray (x0 :: x1 :: x2 :: x3 :: x4 :: x5 :: x6 :: x7 :: x8 :: x9 :: x10 :: x11 :: x12 :: x13 :: x14 :: x15 :: x16 :: x17 :: x18 :: x19 :: x20 :: x21 :: x22 :: x23 :: x24 :: x25 :: x26 :: x27 :: x28 :: x29 :: x30 :: x31 :: x32 :: x33 :: x34 :: x35 :: x36 :: x37 :: x38 :: x39 :: x40 :: x41 :: x42 :: x43 :: x44 :: x45 :: x46 :: x47 :: x48 :: x49 :: x50 :: x51 :: x52 :: x53 :: x54 :: x55 :: x56 :: x57 :: x58 :: x59 :: x60 :: x61 :: x62 :: x63 :: x64 :: x65 :: x66 :: x67 :: x68 :: x69 :: x70 :: x71 :: x72 :: x73 :: x74 :: x75 :: x76 :: x77 :: x78 :: x79 :: x80 :: x81 :: x82 :: x83 :: x84 :: x85 :: x86 :: x87 :: x88 :: x89 :: x90 :: x91 :: x92 :: x93 :: x94 :: x95 :: x96 :: x97 :: x98 :: x99 :: v100 :: v101 :: v102 :: v103 :: v104 :: v105 :: v106 :: v107 :: v108 :: v109 :: v110 :: v111 :: v112 :: v113 :: v114 :: v115 :: v116 :: v117 :: v118 :: v119 :: v120 :: v121 :: v122 :: v123 :: v124 :: v125 :: v126 :: v127 :: v128 :: v129 :: v130 :: v131 :: v132 :: v133 :: v134 :: v135 :: v136 :: v137 :: x138 :: x139 :: x140 :: x141 :: x142 :: x143 :: x144 :: x145 :: x146 :: x147 :: x148 :: x149 :: x150 :: x151 :: x152 :: x153 :: x154 :: x155 :: x156 :: x157 :: x158 :: x159 :: x160 :: x161 :: x162 :: x163 :: x164 :: x165 :: x166 :: x167 :: x168 :: x169 :: x170 :: x171 :: x172 :: x173 :: x174 :: x175 :: x176 :: x177 :: x178 :: x179 :: x180 :: x181 :: x182 :: x183 :: x184 :: x185 :: x186 :: x187 :: x188 :: x189 :: x190 :: x191 :: x192 :: x193 :: x194 :: x195 :: x196 :: x197 :: x198 :: x199 :: x200 :: x201 :: x202 :: x203 :: x204 :: x205 :: x206 :: x207 :: x208 :: x209 :: x210 :: x211 :: x212 :: x213 :: x214 :: x215 :: x216 :: x217 :: x218 :: x219 :: x220 :: x221 :: x222 :: x223 :: x224 :: x225 :: x226 :: []), defers := dd } w) : Code.wp Try.prog c Q { tmps := List.toArray (x0 :: x1 :: x2 :: x3 :: x4 :: x5 :: x6 :: x7 :: x8 :: x9 :: x10 :: x11 :: x12 :: x13 :: x14 :: x15 :: x16 :: x17 :: x18 :: x19 :: x20 :: x21 :: x22 :: x23 :: x24 :: x25 :: x26 :: x27 :: x28 :: x29 :: x30 :: x31 :: x32 :: x33 :: x34 :: x35 :: x36 :: x37 :: x38 :: x39 :: x40 :: x41 :: x42 :: x43 :: x44 :: x45 :: x46 :: x47 :: x48 :: x49 :: x50 :: x51 :: x52 :: x53 :: x54 :: x55 :: x56 :: x57 :: x58 :: x59 :: x60 :: x61 :: x62 :: x63 :: x64 :: x65 :: x66 :: x67 :: x68 :: x69 :: x70 :: x71 :: x72 :: x73 :: x74 :: x75 :: x76 :: x77 :: x78 :: x79 :: x80 :: x81 :: x82 :: x83 :: x84 :: x85 :: x86 :: x87 :: x88 :: x89 :: x90 :: x91 :: x92 :: x93 :: x94 :: x95 :: x96 :: x97 :: x98 :: x99 :: y100 :: y101 :: y102 :: y103 :: y104 :: y105 :: y106 :: y107 :: y108 :: y109 :: y110 :: y111 :: y112 :: y113 :: y114 :: y115 :: y116 :: y117 :: y118 :: y119 :: y120 :: y121 :: y122 :: y123 :: y124 :: y125 :: y126 :: y127 :: y128 :: y129 :: y130 :: y131 :: y132 :: y133 :: y134 :: y135 :: y136 :: y137 :: x138 :: x139 :: x140 :: x141 :: x142 :: x143 :: x144 :: x145 :: x146 :: x147 :: x148 :: x149 :: x150 :: x151 :: x152 :: x153 :: x154 :: x155 :: x156 :: x157 :: x158 :: x159 :: x160 :: x161 :: x162 :: x163 :: x164 :: x165 :: x166 :: x167 :: x168 :: x169 :: x170 :: x171 :: x172 :: x173 :: x174 :: x175 :: x176 :: x177 :: x178 :: x179 :: x180 :: x181 :: x182 :: x183 :: x184 :: x185 :: x186 :: x187 :: x188 :: x189 :: x190 :: x191 :: x192 :: x193 :: x194 :: x195 :: x196 :: x197 :: x198 :: x199 :: x200 :: x201 :: x202 :: x203 :: x204 :: x205 :: x206 :: x207 :: x208 :: x209 :: x210 :: x211 :: x212 :: x213 :: x214 :: x215 :: x216 :: x217 :: x218 :: x219 :: x220 :: x221 :: x222 :: x223 :: x224 :: x225 :: x226 :: []), defers := dd } w := h y100 y101 y102 y103 y104 y105 y106 y107 y108 y109 y110 y111 y112 y113 y114 y115 y116 y117 y118 y119 y120 y121 y122 y123 y124 y125 y126 y127 y128 y129 y130 y131 y132 y133 y134 y135 y136 y137
set_option maxHeartbeats 4000000 in
set_option maxRecDepth 100000 in
theorem mergesame (s t u : Sl Note) (w : World) (hs : RdNotes (· < w.heap.size) w s) (ht : RdNotes (· < w.heap.size) w t) (hu : RdNotes (· < w.heap.size) w u) :
    Calls Try.prog 7 #[.slice s.A s.l.length s.c, .slice t.A t.l.length t.c, .slice u.A u.l.length u.c] w fun e w' => e = .returned (.bool true) ∧ Below w.heap.size w w' := by
  obtain ⟨sA, sc, sl⟩ := s
  obtain ⟨tA, tc, tl⟩ := t
  obtain ⟨uA, uc, ul⟩ := u
  have HS := Lib.hid hs
  have HT := Lib.hid ht
  have HU := Lib.hid hu
  clear hs ht hu
  simp only
  go_enter Try.func7, Try.ntmps7
  go_wp2_with fail
  refine (small41 _).mono ?_
  rintro e w1 ⟨rfl, hb1⟩
  have hB1 : Below w.heap.size w w1 := (by repeat (first | (with_reducible exact Below.refl _ _) | ((with_reducible refine below_setr ?_ ?_); focus (first | (simp; done) | (simp; omega) | omega)) | ((with_reducible refine below_allocr ?_ ?_); focus (first | (simp; done) | (simp; omega) | omega)) | (with_reducible refine Below.drew ?_) | (with_reducible refine below_drewN ?_ _) | ((with_reducible apply below_via); focus (with_reducible assumption))))
  clear hb1
  go_wp2_with fail
  refine (rfew41 ⟨sA, sc, sl⟩ 14 (by omega) w1 (HS.out.later hB1 (Nat.le_refl _))).mono ?_
  rintro e w2 ⟨⟨f1, rfl, hf1⟩, hb2⟩
  have hB2 : Below w.heap.size w w2 := (by repeat (first | (with_reducible exact hB1) | (with_reducible exact Below.refl _ _) | ((with_reducible refine below_setr ?_ ?_); focus (first | (simp; done) | (simp; omega) | omega)) | ((with_reducible refine below_allocr ?_ ?_); focus (first | (simp; done) | (simp; omega) | omega)) | (with_reducible refine Below.drew ?_) | (with_reducible refine below_drewN ?_ _) | ((with_reducible apply below_via); focus (with_reducible assumption))))
  clear hb2
  rcases f1 with _ | _
  · clear hf1
    go_wp2_with fail
    go_ret
    exact ⟨rfl, (by repeat (first | (with_reducible exact hB2) | (with_reducible exact Below.refl _ _) | ((with_reducible refine below_setr ?_ ?_); focus (first | (simp; done) | (simp; omega) | omega)) | ((with_reducible refine below_allocr ?_ ?_); focus (first | (simp; done) | (simp; omega) | omega)) | (with_reducible refine Below.drew ?_) | (with_reducible refine below_drewN ?_ _) | ((with_reducible apply below_via); focus (with_reducible assumption))))⟩
  have hl1 : sl.length ≤ 14 := hf1 rfl
  clear hf1
  go_wp2_with fail
  refine (rfew41 ⟨tA, tc, tl⟩ 14 (by omega) w2 (HT.out.later hB2 (Nat.le_refl _))).mono ?_
  rintro e w3 ⟨⟨f2, rfl, hf2⟩, hb3⟩
  have hB3 : Below w.heap.size w w3 := (by repeat (first | (with_reducible exact hB2) | (with_reducible exact Below.refl _ _) | ((with_reducible refine below_setr ?_ ?_); focus (first | (simp; done) | (simp; omega) | omega)) | ((with_reducible refine below_allocr ?_ ?_); focus (first | (simp; done) | (simp; omega) | omega)) | (with_reducible refine Below.drew ?_) | (with_reducible refine below_drewN ?_ _) | ((with_reducible apply below_via); focus (with_reducible assumption))))
  clear hb3
  rcases f2 with _ | _
  · clear hf2
    go_wp2_with fail
    go_ret
    exact ⟨rfl, (by repeat (first | (with_reducible exact hB3) | (with_reducible exact Below.refl _ _) | ((with_reducible refine below_setr ?_ ?_); focus (first | (simp; done) | (simp; omega) | omega)) | ((with_reducible refine below_allocr ?_ ?_); focus (first | (simp; done) | (simp; omega) | omega)) | (with_reducible refine Below.drew ?_) | (with_reducible refine below_drewN ?_ _) | ((with_reducible apply below_via); focus (with_reducible assumption))))⟩
  have hl2 : tl.length ≤ 14 := hf2 rfl
  clear hf2
  go_wp2_with fail
  refine (rfew41 ⟨uA, uc, ul⟩ 14 (by omega) w3 (HU.out.later hB3 (Nat.le_refl _))).mono ?_
  rintro e w4 ⟨⟨f3, rfl, hf3⟩, hb4⟩
  have hB4 : Below w.heap.size w w4 := (by repeat (first | (with_reducible exact hB3) | (with_reducible exact Below.refl _ _) | ((with_reducible refine below_setr ?_ ?_); focus (first | (simp; done) | (simp; omega) | omega)) | ((with_reducible refine below_allocr ?_ ?_); focus (first | (simp; done) | (simp; omega) | omega)) | (with_reducible refine Below.drew ?_) | (with_reducible refine below_drewN ?_ _) | ((with_reducible apply below_via); focus (with_reducible assumption))))
  clear hb4
  rcases f3 with _ | _
  · clear hf3
    go_wp2_with fail
    go_ret
    exact ⟨rfl, (by repeat (first | (with_reducible exact hB4) | (with_reducible exact Below.refl _ _) | ((with_reducible refine below_setr ?_ ?_); focus (first | (simp; done) | (simp; omega) | omega)) | ((with_reducible refine below_allocr ?_ ?_); focus (first | (simp; done) | (simp; omega) | omega)) | (with_reducible refine Below.drew ?_) | (with_reducible refine below_drewN ?_ _) | ((with_reducible apply below_via); focus (with_reducible assumption))))⟩
  have hl3 : ul.length ≤ 14 := hf3 rfl
  clear hf3
  go_wp2_with fail
  refine (merge_note ⟨sA, sc, sl⟩ ⟨tA, tc, tl⟩ w4 (HS.out.later hB4 (Nat.le_refl _)) (HT.out.later hB4 (Nat.le_refl _)) (by simp only; omega)).mono ?_
  rintro e w5 ⟨⟨mA, mc, ml⟩, rfl, hml, hmr, hb5⟩
  have hB5 : Below w.heap.size w w5 := (by repeat (first | (with_reducible exact hB4) | (with_reducible exact Below.refl _ _) | ((with_reducible refine below_setr ?_ ?_); focus (first | (simp; done) | (simp; omega) | omega)) | ((with_reducible refine below_allocr ?_ ?_); focus (first | (simp; done) | (simp; omega) | omega)) | (with_reducible refine Below.drew ?_) | (with_reducible refine below_drewN ?_ _) | ((with_reducible apply below_via); focus (with_reducible assumption))))
  have hmll : ml.length ≤ 28 := by
    have h1 : (ml.map Note.d).length ≤ (sl.map Note.d).length + (tl.map Note.d).length := by rw [show ml.map Note.d = _ from hml]; exact merge_len _ _
    simp only [List.length_map] at h1
    omega
  have HML := Lib.hid hml
  have HMR := Lib.hid (hmr.mono (G := fun b => b < w5.heap.size) (fun b hb => hb.2))
  clear hb5 hml hmr
  go_wp2_with fail
  refine (merge_note ⟨tA, tc, tl⟩ ⟨sA, sc, sl⟩ w5 (HT.out.later hB5 (Nat.le_refl _)) (HS.out.later hB5 (Nat.le_refl _)) (by simp only; omega)).mono ?_
  rintro e w6 ⟨⟨nA, nc, nl⟩, rfl, hnl, hnr, hb6⟩
  have hB6 : Below w.heap.size w w6 := (by repeat (first | (with_reducible exact hB5) | (with_reducible exact Below.refl _ _) | ((with_reducible refine below_setr ?_ ?_); focus (first | (simp; done) | (simp; omega) | omega)) | ((with_reducible refine below_allocr ?_ ?_); focus (first | (simp; done) | (simp; omega) | omega)) | (with_reducible refine Below.drew ?_) | (with_reducible refine below_drewN ?_ _) | ((with_reducible apply below_via); focus (with_reducible assumption))))
  have HNL := Lib.hid hnl
  have HNR := Lib.hid (hnr.mono (G := fun b => b < w6.heap.size) (fun b hb => hb.2))
  have HMR6 := Lib.hid (HMR.out.later hb6 (Nat.le_refl _))
  clear hb6 hnl hnr
  have hcm := merge_comm (sl.map Note.d) (tl.map Note.d)
  have hno := fun h => merge_no_list (a := sl.map Note.d) (b := tl.map Note.d) h
  rw [← hcm.1]
  have hlm : listsN (ml.map Note.d) (nl.map Note.d) = true := by rw [show ml.map Note.d = _ from HML.out, show nl.map Note.d = _ from HNL.out]; exact hcm.2
  have hlist := lists_at (s := ⟨mA, mc, ml⟩) (t := ⟨nA, nc, nl⟩) (w := w6) HMR6.out HNR.out hlm
  simp only at hlist
  by_cases hE : (mergeN (sl.map Note.d) (tl.map Note.d)).2 = 0
  · rw [hE]
    have HE := Lib.hid hE
    clear hE hcm hno hlm
    go_wp2_with fail
    refine hlist.mono ?_
    rintro e w7 ⟨rfl, hb7⟩
    have hB7 : Below w.heap.size w w7 := (by repeat (first | (with_reducible exact hB6) | (with_reducible exact Below.refl _ _) | ((with_reducible refine below_setr ?_ ?_); focus (first | (simp; done) | (simp; omega) | omega)) | ((with_reducible refine below_allocr ?_ ?_); focus (first | (simp; done) | (simp; omega) | omega)) | (with_reducible refine Below.drew ?_) | (with_reducible refine below_drewN ?_ _) | ((with_reducible apply below_via); focus (with_reducible assumption))))
    have HMR7 := Lib.hid (HMR6.out.later hb7 (Nat.le_refl _))
    clear hb7 hlist HNR
    go_wp2_with fail
    have hid := merge_idem HE.out (by simp; omega)
    rw [← show ml.map Note.d = _ from HML.out] at hid
    have has := merge_assoc (c := ul.map Note.d) HE.out (by simp; omega)
    rw [← show ml.map Note.d = _ from HML.out] at has
    have hgd := merge_zero HE.out
    rw [← show ml.map Note.d = _ from HML.out] at hgd
    have c8 := merge_note ⟨mA, mc, ml⟩ ⟨mA, mc, ml⟩ w7 HMR7.out HMR7.out (by simp only; omega)
    simp only at c8
    generalize mergeN (ml.map Note.d) (ml.map Note.d) = r8 at c8 hid
    obtain ⟨R8, e8⟩ := r8
    obtain rfl : e8 = 0 := hid.1
    have HID := Lib.hid hid.2
    have HAS := Lib.hid has
    have HGD := Lib.hid hgd
    clear hid has hgd
    refine c8.mono ?_
    rintro e w8 ⟨⟨pA, pc, pl⟩, rfl, hpl, hpr, hb8⟩
    have hB8 : Below w.heap.size w w8 := (by repeat (first | (with_reducible exact hB7) | (with_reducible exact Below.refl _ _) | ((with_reducible refine below_setr ?_ ?_); focus (first | (simp; done) | (simp; omega) | omega)) | ((with_reducible refine below_allocr ?_ ?_); focus (first | (simp; done) | (simp; omega) | omega)) | (with_reducible refine Below.drew ?_) | (with_reducible refine below_drewN ?_ _) | ((with_reducible apply below_via); focus (with_reducible assumption))))
    have HPL := Lib.hid hpl
    have HPR := Lib.hid (hpr.mono (G := fun b => b < w8.heap.size) (fun b hb => hb.2))
    have HMR8 := Lib.hid (HMR7.out.later hb8 (Nat.le_refl _))
    clear hb8 hpl hpr c8
    go_wp2_with fail
    have has := HAS.out
    have c9 := merge_note ⟨mA, mc, ml⟩ ⟨uA, uc, ul⟩ w8 HMR8.out (HU.out.later hB8 (Nat.le_refl _)) (by simp only; omega)
    simp only at c9
    generalize mergeN (ml.map Note.d) (ul.map Note.d) = r9 at c9 has
    obtain ⟨R9, e9⟩ := r9
    have HAS9 := Lib.hid has
    clear has
    refine c9.mono ?_
    rintro e w9 ⟨⟨oA, oc, ol⟩, rfl, hol, hor, hb9⟩
    have hB9 : Below w.heap.size w w9 := (by repeat (first | (with_reducible exact hB8) | (with_reducible exact Below.refl _ _) | ((with_reducible refine below_setr ?_ ?_); focus (first | (simp; done) | (simp; omega) | omega)) | ((with_reducible refine below_allocr ?_ ?_); focus (first | (simp; done) | (simp; omega) | omega)) | (with_reducible refine Below.drew ?_) | (with_reducible refine below_drewN ?_ _) | ((with_reducible apply below_via); focus (with_reducible assumption))))
    have HOL := Lib.hid hol
    have HOR := Lib.hid (hor.mono (G := fun b => b < w9.heap.size) (fun b hb => hb.2))
    have HMR9 := Lib.hid (HMR8.out.later hb9 (Nat.le_refl _))
    have HPR9 := Lib.hid (HPR.out.later hb9 (Nat.le_refl _))
    clear hb9 hol hor c9 HAS
    go_wp2_with fail
    refine (merge_note ⟨tA, tc, tl⟩ ⟨uA, uc, ul⟩ w9 (HT.out.later hB9 (Nat.le_refl _)) (HU.out.later hB9 (Nat.le_refl _)) (by simp only; omega)).mono ?_
    rintro e w10 ⟨⟨qA, qc, ql⟩, rfl, hql, hqr, hb10⟩
    have hB10 : Below w.heap.size w w10 := (by repeat (first | (with_reducible exact hB9) | (with_reducible exact Below.refl _ _) | ((with_reducible refine below_setr ?_ ?_); focus (first | (simp; done) | (simp; omega) | omega)) | ((with_reducible refine below_allocr ?_ ?_); focus (first | (simp; done) | (simp; omega) | omega)) | (with_reducible refine Below.drew ?_) | (with_reducible refine below_drewN ?_ _) | ((with_reducible apply below_via); focus (with_reducible assumption))))
    have hqll : ql.length ≤ 28 := by
      have h1 : (ql.map Note.d).length ≤ (tl.map Note.d).length + (ul.map Note.d).length := by rw [show ql.map Note.d = _ from hql]; exact merge_len _ _
      simp only [List.length_map] at h1
      omega
    have has := HAS9.out
    rw [← show ql.map Note.d = _ from hql] at has
    simp only at hql
    generalize (mergeN (tl.map Note.d) (ul.map Note.d)).2 = e10 at *
    have HAS10 := Lib.hid has
    have HQR := Lib.hid (hqr.mono (G := fun b => b < w10.heap.size) (fun b hb => hb.2))
    have HMR10 := Lib.hid (HMR9.out.later hb10 (Nat.le_refl _))
    have HPR10 := Lib.hid (HPR9.out.later hb10 (Nat.le_refl _))
    have HOR10 := Lib.hid (HOR.out.later hb10 (Nat.le_refl _))
    clear hb10 hql hqr has HAS9 HMR9 HPR9
    skip
    go_wp2_with fail
    have has := HAS10.out
    have c11 := merge_note ⟨sA, sc, sl⟩ ⟨qA, qc, ql⟩ w10 (HS.out.later hB10 (Nat.le_refl _)) HQR.out (by simp only; omega)
    simp only at c11
    generalize mergeN (sl.map Note.d) (ql.map Note.d) = r11 at c11 has
    obtain ⟨R11, e11⟩ := r11
    have HAS11 := Lib.hid has
    clear has
    refine c11.mono ?_
    rintro e w11 ⟨⟨rA, rc, rl⟩, rfl, hrl, hrr, hb11⟩
    have hB11 : Below w.heap.size w w11 := (by repeat (first | (with_reducible exact hB10) | (with_reducible exact Below.refl _ _) | ((with_reducible refine below_setr ?_ ?_); focus (first | (simp; done) | (simp; omega) | omega)) | ((with_reducible refine below_allocr ?_ ?_); focus (first | (simp; done) | (simp; omega) | omega)) | (with_reducible refine Below.drew ?_) | (with_reducible refine below_drewN ?_ _) | ((with_reducible apply below_via); focus (with_reducible assumption))))
    have HRL := Lib.hid hrl
    have HRR := Lib.hid (hrr.mono (G := fun b => b < w11.heap.size) (fun b hb => hb.2))
    have HMR11 := Lib.hid (HMR10.out.later hb11 (Nat.le_refl _))
    have HPR11 := Lib.hid (HPR10.out.later hb11 (Nat.le_refl _))
    have HOR11 := Lib.hid (HOR10.out.later hb11 (Nat.le_refl _))
    clear hb11 hrl hrr c11 HAS10 HMR10 HPR10 HOR10 HQR
    have hll1 := lists_at (s := ⟨mA, mc, ml⟩) (t := ⟨pA, pc, pl⟩) (w := w11) HMR11.out HPR11.out (show _ = true by rw [show pl.map Note.d = _ from HPL.out]; exact HID.out)
    simp only at hll1
    have h1 := HAS11.out.1
    have h2 := HAS11.out.2
    simp only at h1 h2
    clear HAS11
    have H1 := Lib.hid h1
    have H2 := Lib.hid h2
    have HL1 := Lib.hid hll1
    clear h1 h2 hll1
    apply cutS
    · intro fin0
      have FIN := Lib.hid fin0
      clear fin0
      by_cases h9 : e9 = 0
      · obtain ⟨g10, g11, hg⟩ := H1.out h9
        have e1 : (e9 == 0) = true := by simp [h9]
        have e2 : (e10 != 0) = false := by simp [g10]
        have e3 : (e11 != 0) = false := by simp [g11]
        have e4 : (e9 != 0) = false := by simp [h9]
        have e5 : (e10 == 0) = true := by simp [g10]
        have e6 : (e11 == 0) = true := by simp [g11]
        have HG := Lib.hid hg
        clear hg h9 g10 g11
        go_wp2_with fail
        refine HL1.out.mono ?_
        rintro e w12 ⟨rfl, hb12⟩
        have hB12 : Below w.heap.size w w12 := (by repeat (first | (with_reducible exact hB11) | (with_reducible exact Below.refl _ _) | ((with_reducible refine below_setr ?_ ?_); focus (first | (simp; done) | (simp; omega) | omega)) | ((with_reducible refine below_allocr ?_ ?_); focus (first | (simp; done) | (simp; omega) | omega)) | (with_reducible refine Below.drew ?_) | (with_reducible refine below_drewN ?_ _) | ((with_reducible apply below_via); focus (with_reducible assumption))))
        have HMR12 := Lib.hid (HMR11.out.later hb12 (Nat.le_refl _))
        have hl2 := lists_at (s := ⟨oA, oc, ol⟩) (t := ⟨rA, rc, rl⟩) (w := w12) (HOR11.out.later hb12 (Nat.le_refl _)) (HRR.out.later hb12 (Nat.le_refl _)) (show _ = true by rw [show ol.map Note.d = _ from HOL.out, show rl.map Note.d = _ from HRL.out]; exact HG.out)
        simp only at hl2
        clear hb12
        go_wp2_with fail
        refine hl2.mono ?_
        rintro e w13 ⟨rfl, hb13⟩
        have hB13 : Below w.heap.size w w13 := (by repeat (first | (with_reducible exact hB12) | (with_reducible exact Below.refl _ _) | ((with_reducible refine below_setr ?_ ?_); focus (first | (simp; done) | (simp; omega) | omega)) | ((with_reducible refine below_allocr ?_ ?_); focus (first | (simp; done) | (simp; omega) | omega)) | (with_reducible refine Below.drew ?_) | (with_reducible refine below_drewN ?_ _) | ((with_reducible apply below_via); focus (with_reducible assumption))))
        have HMR13 := Lib.hid (HMR12.out.later hb13 (Nat.le_refl _))
        clear hl2 hb13
        go_wp2_with fail
        rename_i K hK
        have HBZ := Lib.hid hB13
        have HMZ := Lib.hid HMR13.out
        clear hB13 HMR13
        refine gen38 ?_
        revert hK
        revert K
        revert HMZ
        revert HBZ
        revert w13
        exact FIN.out
      · have e1 : (e9 == 0) = false := by simp [h9]
        have e2 : (e9 != 0) = true := by simp [h9]
        by_cases h10 : e10 = 0
        · have h11 : e11 ≠ 0 := fun h => h9 (H2.out h10 h)
          have e3 : (e10 == 0) = true := by simp [h10]
          have e4 : (e11 == 0) = false := by simp [h11]
          clear h9 h10 h11
          go_wp2_with fail
          refine HL1.out.mono ?_
          rintro e w12 ⟨rfl, hb12⟩
          have hB12 : Below w.heap.size w w12 := (by repeat (first | (with_reducible exact hB11) | (with_reducible exact Below.refl _ _) | ((with_reducible refine below_setr ?_ ?_); focus (first | (simp; done) | (simp; omega) | omega)) | ((with_reducible refine below_allocr ?_ ?_); focus (first | (simp; done) | (simp; omega) | omega)) | (with_reducible refine Below.drew ?_) | (with_reducible refine below_drewN ?_ _) | ((with_reducible apply below_via); focus (with_reducible assumption))))
          have HMR12 := Lib.hid (HMR11.out.later hb12 (Nat.le_refl _))
          clear hb12
          go_wp2_with fail
          rename_i K hK
          have HBZ := Lib.hid hB12
          have HMZ := Lib.hid HMR12.out
          clear hB12 HMR12
          refine gen38 ?_
          revert hK
          revert K
          revert HMZ
          revert HBZ
          revert w12
          exact FIN.out
        · have e3 : (e10 == 0) = false := by simp [h10]
          clear h9 h10
          go_wp2_with fail
          refine HL1.out.mono ?_
          rintro e w12 ⟨rfl, hb12⟩
          have hB12 : Below w.heap.size w w12 := (by repeat (first | (with_reducible exact hB11) | (with_reducible exact Below.refl _ _) | ((with_reducible refine below_setr ?_ ?_); focus (first | (simp; done) | (simp; omega) | omega)) | ((with_reducible refine below_allocr ?_ ?_); focus (first | (simp; done) | (simp; omega) | omega)) | (with_reducible refine Below.drew ?_) | (with_reducible refine below_drewN ?_ _) | ((with_reducible apply below_via); focus (with_reducible assumption))))
          have HMR12 := Lib.hid (HMR11.out.later hb12 (Nat.le_refl _))
          clear hb12
          go_wp2_with fail
          rename_i K hK
          have HBZ := Lib.hid hB12
          have HMZ := Lib.hid HMR12.out
          clear hB12 HMR12
          refine gen38 ?_
          revert hK
          revert K
          revert HMZ
          revert HBZ
          revert w12
          exact FIN.out
    · skip
      intro wz HBZ HMZ K hK v100 v101 v102 v103 v104 v105 v106 v107 v108 v109 v110 v111 v112 v113 v114 v115 v116 v117 v118 v119 v120 v121 v122 v123 v124 v125 v126 v127 v128 v129 v130 v131 v132 v133 v134 v135 v136 v137
      clear HPL HPR HID HOL HOR HMR HMR6 HMR7 HMR8 HMR11 HPR11 HOR11 HRL HRR HML HNL
      clear hB1 hB2 hB3 hB4 hB5 hB6 hB7 hB8 hB9 hB10 hB11
      go_loopw [20] (fun n wr => ∃ (m : Nat), m ≤ ml.length ∧ n = .int .i64 m ∧ Below wz.heap.size wz wr) (fun n _ => ml.length - (intOf n).toNat)
      case atStart => exact ⟨0, by omega, rfl, Below.refl _ _⟩
      case round =>
        obtain ⟨m, hm, rfl, hbo⟩ := hrel
        have hB14 : Below w.heap.size w wr := HBZ.out.trans (hbo.mono HBZ.out.size)
        have hz14 : w.heap.size ≤ wr.heap.size := hB14.size
        have hzz : wz.heap.size ≤ wr.heap.size := hbo.size
        by_cases hml : m < ml.length
        · have hml' : (m : Int) < (ml.length : Int) := by omega
          obtain ⟨b, ox, rfl, hb, hcl⟩ := HMZ.out.1.at1 hml
          obtain ⟨g0, g1, g2, g3, g4⟩ := Cells.c5 (hcl.keep (hbo.block b hb))
          have hya := (HMZ.out.2 _ (List.getElem_mem hml)).below' hbo (Nat.le_refl _)
          have hy := List.getElem_mem hml
          have hso := HGD.out.sorted
          by_cases hm0 : m = 0
          · subst hm0
            clear hcl hso
            generalize ml[0] = y at *
            obtain ⟨yd, yq, ⟨yA, yc, yl⟩, yt, yx⟩ := y
            have HYA := Lib.hid hya
            have HY := Lib.hid hy
            clear hya hy
            simp only [Nat.zero_mul, Nat.add_zero] at g0 g1 g2 g3 g4
            have hmx : max (-1 : Int) 0 = 0 := rfl
            have q0 := kal (.cells #[.int .i64 yd, .int .i64 yq, .slice yA yl.length yc, .int .i64 yt, .string yx] 61) g0
            have q1 := kal (.cells #[.int .i64 yd, .int .i64 yq, .slice yA yl.length yc, .int .i64 yt, .string yx] 61) g1
            have q2 := kal (.cells #[.int .i64 yd, .int .i64 yq, .slice yA yl.length yc, .int .i64 yt, .string yx] 61) g2
            have q3 := kal (.cells #[.int .i64 yd, .int .i64 yq, .slice yA yl.length yc, .int .i64 yt, .string yx] 61) g3
            have q4 := kal (.cells #[.int .i64 yd, .int .i64 yq, .slice yA yl.length yc, .int .i64 yt, .string yx] 61) g4
            obtain ⟨j0, j1, j2, j3, j4, _, _⟩ := (Blk.new wr 61 #[.int .i64 yd, .int .i64 yq, .slice yA yl.length yc, .int .i64 yt, .string yx]).b5
            go_wp2_with fail
            refine wp_region_T (fun w' => (w'.cell? ⟨b, ox, none⟩ = some (.int .i64 yd) ∧ w'.cell? ⟨b, ox + 1, none⟩ = some (.int .i64 yq) ∧ w'.cell? ⟨b, ox + 2, none⟩ = some (.slice yA yl.length yc) ∧ w'.cell? ⟨b, ox + 3, none⟩ = some (.int .i64 yt) ∧ w'.cell? ⟨b, ox + 4, none⟩ = some (.string yx)) ∧ (w'.cell? ⟨wr.heap.size, 0, none⟩ = some (.int .i64 yd) ∧ w'.cell? ⟨wr.heap.size, 1, none⟩ = some (.int .i64 yq) ∧ w'.cell? ⟨wr.heap.size, 2, none⟩ = some (.slice yA yl.length yc) ∧ w'.cell? ⟨wr.heap.size, 3, none⟩ = some (.int .i64 yt) ∧ w'.cell? ⟨wr.heap.size, 4, none⟩ = some (.string yx))) (fun _ => false) (by kernel_rfl) ⟨⟨q0, q1, q2, q3, q4⟩, j0, j1, j2, j3, j4⟩ (fun hHeld => ?_)
            refine wpAnyT_take2 (i := 0) (v := ?_) rfl rfl (by kernel_rfl) (by kernel_rfl) (by kernel_rfl) (by kernel_rfl) (fun _ _ _ h => h) (Or.inl ⟨by rfl, ?_⟩) (by first | assumption | trivial) ?_
            rotate_left
            · (intro w hSw; (try dsimp only at hSw); go_simp) <;> (with_reducible rfl)
            simp only [List.setIfInBounds_toArray, List.set_cons_zero, List.set_cons_succ]
            refine wpAnyT_take2 (i := 1) (v := ?_) rfl rfl (by kernel_rfl) (by kernel_rfl) (by kernel_rfl) (by kernel_rfl) (fun _ _ _ h => h) (Or.inl ⟨by rfl, ?_⟩) (by first | assumption | trivial) ?_
            rotate_left
            · (intro w hSw; (try dsimp only at hSw); go_simp) <;> (with_reducible rfl)
            simp only [List.setIfInBounds_toArray, List.set_cons_zero, List.set_cons_succ]
            refine wpAnyT_take2 (i := 2) (v := ?_) rfl rfl (by kernel_rfl) (by kernel_rfl) (by kernel_rfl) (by kernel_rfl) (fun _ _ _ h => h) (Or.inl ⟨by rfl, ?_⟩) (by first | assumption | trivial) ?_
            rotate_left
            · (intro w hSw; (try dsimp only at hSw); go_simp) <;> (with_reducible rfl)
            simp only [List.setIfInBounds_toArray, List.set_cons_zero, List.set_cons_succ]
            refine wpAnyT_take2 (i := 3) (v := undef) rfl rfl (by kernel_rfl) (by kernel_rfl) (by kernel_rfl) (by kernel_rfl) (fun _ _ _ h => h) (Or.inr ⟨by rfl, rfl⟩) (by first | assumption | trivial) ?_
            simp only [List.setIfInBounds_toArray, List.set_cons_zero, List.set_cons_succ]
            refine wpAnyT_take2 (i := 4) (v := undef) rfl rfl (by kernel_rfl) (by kernel_rfl) (by kernel_rfl) (by kernel_rfl) (fun _ _ _ h => h) (Or.inr ⟨by rfl, rfl⟩) (by first | assumption | trivial) ?_
            simp only [List.setIfInBounds_toArray, List.set_cons_zero, List.set_cons_succ]
            refine wpAnyT_take2 (i := 5) (v := undef) rfl rfl (by kernel_rfl) (by kernel_rfl) (by kernel_rfl) (by kernel_rfl) (fun _ _ _ h => h) (Or.inr ⟨by rfl, rfl⟩) (by first | assumption | trivial) ?_
            simp only [List.setIfInBounds_toArray, List.set_cons_zero, List.set_cons_succ]
            refine wpAnyT_take2 (i := 6) (v := undef) rfl rfl (by kernel_rfl) (by kernel_rfl) (by kernel_rfl) (by kernel_rfl) (fun _ _ _ h => h) (Or.inr ⟨by rfl, rfl⟩) (by first | assumption | trivial) ?_
            simp only [List.setIfInBounds_toArray, List.set_cons_zero, List.set_cons_succ]
            refine wpAnyT_take2 (i := 7) (v := undef) rfl rfl (by kernel_rfl) (by kernel_rfl) (by kernel_rfl) (by kernel_rfl) (fun _ _ _ h => h) (Or.inr ⟨by rfl, rfl⟩) (by first | assumption | trivial) ?_
            simp only [List.setIfInBounds_toArray, List.set_cons_zero, List.set_cons_succ]
            refine wpAnyT_take2 (i := 8) (v := undef) rfl rfl (by kernel_rfl) (by kernel_rfl) (by kernel_rfl) (by kernel_rfl) (fun _ _ _ h => h) (Or.inr ⟨by rfl, rfl⟩) (by first | assumption | trivial) ?_
            simp only [List.setIfInBounds_toArray, List.set_cons_zero, List.set_cons_succ]
            refine wpAnyT_take2 (i := 9) (v := undef) rfl rfl (by kernel_rfl) (by kernel_rfl) (by kernel_rfl) (by kernel_rfl) (fun _ _ _ h => h) (Or.inr ⟨by rfl, rfl⟩) (by first | assumption | trivial) ?_
            simp only [List.setIfInBounds_toArray, List.set_cons_zero, List.set_cons_succ]
            refine wpAnyT_take2 (i := 10) (v := undef) rfl rfl (by kernel_rfl) (by kernel_rfl) (by kernel_rfl) (by kernel_rfl) (fun _ _ _ h => h) (Or.inr ⟨by rfl, rfl⟩) (by first | assumption | trivial) ?_
            simp only [List.setIfInBounds_toArray, List.set_cons_zero, List.set_cons_succ]
            refine wpAnyT_take2 (i := 11) (v := undef) rfl rfl (by kernel_rfl) (by kernel_rfl) (by kernel_rfl) (by kernel_rfl) (fun _ _ _ h => h) (Or.inr ⟨by rfl, rfl⟩) (by first | assumption | trivial) ?_
            simp only [List.setIfInBounds_toArray, List.set_cons_zero, List.set_cons_succ]
            refine wpAnyT_take2 (i := 12) (v := undef) rfl rfl (by kernel_rfl) (by kernel_rfl) (by kernel_rfl) (by kernel_rfl) (fun _ _ _ h => h) (Or.inr ⟨by rfl, rfl⟩) (by first | assumption | trivial) ?_
            simp only [List.setIfInBounds_toArray, List.set_cons_zero, List.set_cons_succ]
            refine wpAnyT_take2 (i := 13) (v := undef) rfl rfl (by kernel_rfl) (by kernel_rfl) (by kernel_rfl) (by kernel_rfl) (fun _ _ _ h => h) (Or.inr ⟨by rfl, rfl⟩) (by first | assumption | trivial) ?_
            simp only [List.setIfInBounds_toArray, List.set_cons_zero, List.set_cons_succ]
            refine wpAnyT_take2 (i := 14) (v := undef) rfl rfl (by kernel_rfl) (by kernel_rfl) (by kernel_rfl) (by kernel_rfl) (fun _ _ _ h => h) (Or.inr ⟨by rfl, rfl⟩) (by first | assumption | trivial) ?_
            simp only [List.setIfInBounds_toArray, List.set_cons_zero, List.set_cons_succ]
            refine wpAnyT_take2 (i := 15) (v := undef) rfl rfl (by kernel_rfl) (by kernel_rfl) (by kernel_rfl) (by kernel_rfl) (fun _ _ _ h => h) (Or.inr ⟨by rfl, rfl⟩) (by first | assumption | trivial) ?_
            simp only [List.setIfInBounds_toArray, List.set_cons_zero, List.set_cons_succ]
            refine wpAnyT_take2 (i := 16) (v := undef) rfl rfl (by kernel_rfl) (by kernel_rfl) (by kernel_rfl) (by kernel_rfl) (fun _ _ _ h => h) (Or.inr ⟨by rfl, rfl⟩) (by first | assumption | trivial) ?_
            simp only [List.setIfInBounds_toArray, List.set_cons_zero, List.set_cons_succ]
            refine wpAnyT_take2 (i := 17) (v := undef) rfl rfl (by kernel_rfl) (by kernel_rfl) (by kernel_rfl) (by kernel_rfl) (fun _ _ _ h => h) (Or.inr ⟨by rfl, rfl⟩) (by first | assumption | trivial) ?_
            simp only [List.setIfInBounds_toArray, List.set_cons_zero, List.set_cons_succ]
            refine wpAnyT_take2 (i := 18) (v := undef) rfl rfl (by kernel_rfl) (by kernel_rfl) (by kernel_rfl) (by kernel_rfl) (fun _ _ _ h => h) (Or.inr ⟨by rfl, rfl⟩) (by first | assumption | trivial) ?_
            simp only [List.setIfInBounds_toArray, List.set_cons_zero, List.set_cons_succ]
            refine wpAnyT_take2 (i := 19) (v := undef) rfl rfl (by kernel_rfl) (by kernel_rfl) (by kernel_rfl) (by kernel_rfl) (fun _ _ _ h => h) (Or.inr ⟨by rfl, rfl⟩) (by first | assumption | trivial) ?_
            simp only [List.setIfInBounds_toArray, List.set_cons_zero, List.set_cons_succ]
            refine wpAnyT_take2 (i := 20) (v := undef) rfl rfl (by kernel_rfl) (by kernel_rfl) (by kernel_rfl) (by kernel_rfl) (fun _ _ _ h => h) (Or.inr ⟨by rfl, rfl⟩) (by first | assumption | trivial) ?_
            simp only [List.setIfInBounds_toArray, List.set_cons_zero, List.set_cons_succ]
            refine wpAnyT_take2 (i := 21) (v := undef) rfl rfl (by kernel_rfl) (by kernel_rfl) (by kernel_rfl) (by kernel_rfl) (fun _ _ _ h => h) (Or.inr ⟨by rfl, rfl⟩) (by first | assumption | trivial) ?_
            simp only [List.setIfInBounds_toArray, List.set_cons_zero, List.set_cons_succ]
            refine wpAnyT_take2 (i := 22) (v := undef) rfl rfl (by kernel_rfl) (by kernel_rfl) (by kernel_rfl) (by kernel_rfl) (fun _ _ _ h => h) (Or.inr ⟨by rfl, rfl⟩) (by first | assumption | trivial) ?_
            simp only [List.setIfInBounds_toArray, List.set_cons_zero, List.set_cons_succ]
            refine wpAnyT_take2 (i := 23) (v := undef) rfl rfl (by kernel_rfl) (by kernel_rfl) (by kernel_rfl) (by kernel_rfl) (fun _ _ _ h => h) (Or.inr ⟨by rfl, rfl⟩) (by first | assumption | trivial) ?_
            simp only [List.setIfInBounds_toArray, List.set_cons_zero, List.set_cons_succ]
            refine wpAnyT_take2 (i := 24) (v := undef) rfl rfl (by kernel_rfl) (by kernel_rfl) (by kernel_rfl) (by kernel_rfl) (fun _ _ _ h => h) (Or.inr ⟨by rfl, rfl⟩) (by first | assumption | trivial) ?_
            simp only [List.setIfInBounds_toArray, List.set_cons_zero, List.set_cons_succ]
            refine wpAnyT_take2 (i := 25) (v := undef) rfl rfl (by kernel_rfl) (by kernel_rfl) (by kernel_rfl) (by kernel_rfl) (fun _ _ _ h => h) (Or.inr ⟨by rfl, rfl⟩) (by first | assumption | trivial) ?_
            simp only [List.setIfInBounds_toArray, List.set_cons_zero, List.set_cons_succ]
            refine wpAnyT_take2 (i := 26) (v := undef) rfl rfl (by kernel_rfl) (by kernel_rfl) (by kernel_rfl) (by kernel_rfl) (fun _ _ _ h => h) (Or.inr ⟨by rfl, rfl⟩) (by first | assumption | trivial) ?_
            simp only [List.setIfInBounds_toArray, List.set_cons_zero, List.set_cons_succ]
            refine wpAnyT_take2 (i := 27) (v := undef) rfl rfl (by kernel_rfl) (by kernel_rfl) (by kernel_rfl) (by kernel_rfl) (fun _ _ _ h => h) (Or.inr ⟨by rfl, rfl⟩) (by first | assumption | trivial) ?_
            simp only [List.setIfInBounds_toArray, List.set_cons_zero, List.set_cons_succ]
            refine wpAnyT_take2 (i := 28) (v := undef) rfl rfl (by kernel_rfl) (by kernel_rfl) (by kernel_rfl) (by kernel_rfl) (fun _ _ _ h => h) (Or.inr ⟨by rfl, rfl⟩) (by first | assumption | trivial) ?_
            simp only [List.setIfInBounds_toArray, List.set_cons_zero, List.set_cons_succ]
            refine wpAnyT_take2 (i := 29) (v := undef) rfl rfl (by kernel_rfl) (by kernel_rfl) (by kernel_rfl) (by kernel_rfl) (fun _ _ _ h => h) (Or.inr ⟨by rfl, rfl⟩) (by first | assumption | trivial) ?_
            simp only [List.setIfInBounds_toArray, List.set_cons_zero, List.set_cons_succ]
            refine wpAnyT_take2 (i := 30) (v := undef) rfl rfl (by kernel_rfl) (by kernel_rfl) (by kernel_rfl) (by kernel_rfl) (fun _ _ _ h => h) (Or.inr ⟨by rfl, rfl⟩) (by first | assumption | trivial) ?_
            simp only [List.setIfInBounds_toArray, List.set_cons_zero, List.set_cons_succ]
            refine wpAnyT_take2 (i := 31) (v := ?_) rfl rfl (by kernel_rfl) (by kernel_rfl) (by kernel_rfl) (by kernel_rfl) (fun _ _ _ h => h) (Or.inl ⟨by rfl, ?_⟩) (by first | assumption | trivial) ?_
            rotate_left
            · (intro w hSw; (try dsimp only at hSw); go_simp) <;> (with_reducible rfl)
            simp only [List.setIfInBounds_toArray, List.set_cons_zero, List.set_cons_succ]
            refine wpAnyT_take2 (i := 32) (v := ?_) rfl rfl (by kernel_rfl) (by kernel_rfl) (by kernel_rfl) (by kernel_rfl) (fun _ _ _ h => h) (Or.inl ⟨by rfl, ?_⟩) (by first | assumption | trivial) ?_
            rotate_left
            · (intro w hSw; (try dsimp only at hSw); go_simp) <;> (with_reducible rfl)
            simp only [List.setIfInBounds_toArray, List.set_cons_zero, List.set_cons_succ]
            refine wpAnyT_take2 (i := 33) (v := ?_) rfl rfl (by kernel_rfl) (by kernel_rfl) (by kernel_rfl) (by kernel_rfl) (fun _ _ _ h => h) (Or.inl ⟨by rfl, ?_⟩) (by first | assumption | trivial) ?_
            rotate_left
            · (intro w hSw; (try dsimp only at hSw); go_simp) <;> (with_reducible rfl)
            simp only [List.setIfInBounds_toArray, List.set_cons_zero, List.set_cons_succ]
            refine wpAnyT_take2 (i := 34) (v := ?_) rfl rfl (by kernel_rfl) (by kernel_rfl) (by kernel_rfl) (by kernel_rfl) (fun _ _ _ h => h) (Or.inl ⟨by rfl, ?_⟩) (by first | assumption | trivial) ?_
            rotate_left
            · (intro w hSw; (try dsimp only at hSw); go_simp) <;> (with_reducible rfl)
            simp only [List.setIfInBounds_toArray, List.set_cons_zero, List.set_cons_succ]
            refine wpAnyT_take2 (i := 35) (v := ?_) rfl rfl (by kernel_rfl) (by kernel_rfl) (by kernel_rfl) (by kernel_rfl) (fun _ _ _ h => h) (Or.inl ⟨by rfl, ?_⟩) (by first | assumption | trivial) ?_
            rotate_left
            · (intro w hSw; (try dsimp only at hSw); go_simp) <;> (with_reducible rfl)
            simp only [List.setIfInBounds_toArray, List.set_cons_zero, List.set_cons_succ]
            refine wpAnyT_take2 (i := 36) (v := ?_) rfl rfl (by kernel_rfl) (by kernel_rfl) (by kernel_rfl) (by kernel_rfl) (fun _ _ _ h => h) (Or.inl ⟨by rfl, ?_⟩) (by first | assumption | trivial) ?_
            rotate_left
            · (intro w hSw; (try dsimp only at hSw); go_simp) <;> (with_reducible rfl)
            simp only [List.setIfInBounds_toArray, List.set_cons_zero, List.set_cons_succ]
            refine wpAnyT_take2 (i := 37) (v := ?_) rfl rfl (by kernel_rfl) (by kernel_rfl) (by kernel_rfl) (by kernel_rfl) (fun _ _ _ h => h) (Or.inl ⟨by rfl, ?_⟩) (by first | assumption | trivial) ?_
            rotate_left
            · (intro w hSw; (try dsimp only at hSw); go_simp) <;> (with_reducible rfl)
            simp only [List.setIfInBounds_toArray, List.set_cons_zero, List.set_cons_succ]
            clear hHeld
            refine wpAnyT_next (i := 38) (by kernel_rfl) rfl ?_
            go_wp2_with fail
            refine (lhas ⟨sA, sc, sl⟩ ⟨yd, yq, ⟨yA, yc, yl⟩, yt, yx⟩ _ (HS.out.later (by repeat (first | (with_reducible exact hB14) | (with_reducible exact Below.refl _ _) | ((with_reducible refine below_setr ?_ ?_); focus (first | (simp; done) | (simp; omega) | omega)) | ((with_reducible refine below_allocr ?_ ?_); focus (first | (simp; done) | (simp; omega) | omega)) | (with_reducible refine Below.drew ?_) | (with_reducible refine below_drewN ?_ _) | ((with_reducible apply below_via); focus (with_reducible assumption)))) (Nat.le_refl _)) (HYA.out.below' (by repeat (first | (with_reducible exact hbo) | (with_reducible exact Below.refl _ _) | ((with_reducible refine below_setr ?_ ?_); focus (first | (simp; done) | (simp; omega) | omega)) | ((with_reducible refine below_allocr ?_ ?_); focus (first | (simp; done) | (simp; omega) | omega)) | (with_reducible refine Below.drew ?_) | (with_reducible refine below_drewN ?_ _) | ((with_reducible apply below_via); focus (with_reducible assumption)))) (Nat.le_refl _))).mono ?_
            rintro e w16 ⟨rfl, hb16⟩
            have hBr : Below wr.heap.size wr w16 := (by repeat (first | (with_reducible exact Below.refl _ _) | ((with_reducible refine below_setr ?_ ?_); focus (first | (simp; done) | (simp; omega) | omega)) | ((with_reducible refine below_allocr ?_ ?_); focus (first | (simp; done) | (simp; omega) | omega)) | (with_reducible refine Below.drew ?_) | (with_reducible refine below_drewN ?_ _) | ((with_reducible apply below_via); focus (with_reducible assumption))))
            have hB16 : Below w.heap.size w w16 := hB14.trans (hBr.mono hz14)
            have hbo16 : Below wz.heap.size wz w16 := hbo.trans (hBr.mono hzz)
            have G0 := keep_cell hb16 (show (World.drew _).cell? ⟨b, ox, none⟩ = _ from q0)
            have G1 := keep_cell hb16 (show (World.drew _).cell? ⟨b, ox + 1, none⟩ = _ from q1)
            have G2 := keep_cell hb16 (show (World.drew _).cell? ⟨b, ox + 2, none⟩ = _ from q2)
            have G3 := keep_cell hb16 (show (World.drew _).cell? ⟨b, ox + 3, none⟩ = _ from q3)
            have G4 := keep_cell hb16 (show (World.drew _).cell? ⟨b, ox + 4, none⟩ = _ from q4)
            have J0 := keep_cell hb16 (show (World.drew _).cell? ⟨wr.heap.size, 0, none⟩ = _ from j0)
            have J1 := keep_cell hb16 (show (World.drew _).cell? ⟨wr.heap.size, 1, none⟩ = _ from j1)
            have J2 := keep_cell hb16 (show (World.drew _).cell? ⟨wr.heap.size, 2, none⟩ = _ from j2)
            have J3 := keep_cell hb16 (show (World.drew _).cell? ⟨wr.heap.size, 3, none⟩ = _ from j3)
            have J4 := keep_cell hb16 (show (World.drew _).cell? ⟨wr.heap.size, 4, none⟩ = _ from j4)
            clear hb16 q0 q1 q2 q3 q4 j0 j1 j2 j3 j4
            have htwo := fun h => hasN_two HGD.out (x := Note.d ⟨yd, yq, ⟨yA, yc, yl⟩, yt, yx⟩) (List.mem_map_of_mem (f := Note.d) HY.out) h
            simp only
            generalize hasN (sl.map Note.d) (Note.d ⟨yd, yq, ⟨yA, yc, yl⟩, yt, yx⟩) = va at *
            rcases va with _ | _
            · have HTW := Lib.hid (htwo rfl)
              clear htwo
              go_wp2_with fail
              have hHeld := And.intro (And.intro G0 (And.intro G1 (And.intro G2 (And.intro G3 G4)))) (And.intro J0 (And.intro J1 (And.intro J2 (And.intro J3 J4))))
              refine ⟨(by first | exact hHeld | exact fun _ => hHeld), ?_⟩
              refine wpAnyT_take2 (i := 39) (v := ?_) rfl rfl (by kernel_rfl) (by kernel_rfl) (by kernel_rfl) (by kernel_rfl) (fun _ _ _ h => h) (Or.inl ⟨by rfl, ?_⟩) (by first | assumption | trivial) ?_
              rotate_left
              · (intro w hSw; (try dsimp only at hSw); go_simp) <;> (with_reducible rfl)
              simp only [List.setIfInBounds_toArray, List.set_cons_zero, List.set_cons_succ]
              refine wpAnyT_take2 (i := 40) (v := ?_) rfl rfl (by kernel_rfl) (by kernel_rfl) (by kernel_rfl) (by kernel_rfl) (fun _ _ _ h => h) (Or.inl ⟨by rfl, ?_⟩) (by first | assumption | trivial) ?_
              rotate_left
              · (intro w hSw; (try dsimp only at hSw); go_simp) <;> (with_reducible rfl)
              simp only [List.setIfInBounds_toArray, List.set_cons_zero, List.set_cons_succ]
              refine wpAnyT_take2 (i := 41) (v := ?_) rfl rfl (by kernel_rfl) (by kernel_rfl) (by kernel_rfl) (by kernel_rfl) (fun _ _ _ h => h) (Or.inl ⟨by rfl, ?_⟩) (by first | assumption | trivial) ?_
              rotate_left
              · (intro w hSw; (try dsimp only at hSw); go_simp) <;> (with_reducible rfl)
              simp only [List.setIfInBounds_toArray, List.set_cons_zero, List.set_cons_succ]
              refine wpAnyT_take2 (i := 42) (v := ?_) rfl rfl (by kernel_rfl) (by kernel_rfl) (by kernel_rfl) (by kernel_rfl) (fun _ _ _ h => h) (Or.inl ⟨by rfl, ?_⟩) (by first | assumption | trivial) ?_
              rotate_left
              · (intro w hSw; (try dsimp only at hSw); go_simp) <;> (with_reducible rfl)
              simp only [List.setIfInBounds_toArray, List.set_cons_zero, List.set_cons_succ]
              refine wpAnyT_take2 (i := 43) (v := ?_) rfl rfl (by kernel_rfl) (by kernel_rfl) (by kernel_rfl) (by kernel_rfl) (fun _ _ _ h => h) (Or.inl ⟨by rfl, ?_⟩) (by first | assumption | trivial) ?_
              rotate_left
              · (intro w hSw; (try dsimp only at hSw); go_simp) <;> (with_reducible rfl)
              simp only [List.setIfInBounds_toArray, List.set_cons_zero, List.set_cons_succ]
              refine wpAnyT_take2 (i := 44) (v := ?_) rfl rfl (by kernel_rfl) (by kernel_rfl) (by kernel_rfl) (by kernel_rfl) (fun _ _ _ h => h) (Or.inl ⟨by rfl, ?_⟩) (by first | assumption | trivial) ?_
              rotate_left
              · (intro w hSw; (try dsimp only at hSw); go_simp) <;> (with_reducible rfl)
              simp only [List.setIfInBounds_toArray, List.set_cons_zero, List.set_cons_succ]
              refine wpAnyT_take2 (i := 45) (v := ?_) rfl rfl (by kernel_rfl) (by kernel_rfl) (by kernel_rfl) (by kernel_rfl) (fun _ _ _ h => h) (Or.inl ⟨by rfl, ?_⟩) (by first | assumption | trivial) ?_
              rotate_left
              · (intro w hSw; (try dsimp only at hSw); go_simp) <;> (with_reducible rfl)
              simp only [List.setIfInBounds_toArray, List.set_cons_zero, List.set_cons_succ]
              clear hHeld
              refine wpAnyT_next (i := 46) (by kernel_rfl) rfl ?_
              go_wp2_with fail
              have c17 := lhas ⟨tA, tc, tl⟩ ⟨yd, yq, ⟨yA, yc, yl⟩, yt, yx⟩ w16 (HT.out.later hB16 (Nat.le_refl _)) (HYA.out.below' hBr (Nat.le_refl _))
              simp only [HTW.out] at c17
              refine c17.mono ?_
              rintro e w17 ⟨rfl, hb17⟩
              have hBr17 : Below w16.heap.size w16 w17 := (by repeat (first | (with_reducible exact Below.refl _ _) | ((with_reducible refine below_setr ?_ ?_); focus (first | (simp; done) | (simp; omega) | omega)) | ((with_reducible refine below_allocr ?_ ?_); focus (first | (simp; done) | (simp; omega) | omega)) | (with_reducible refine Below.drew ?_) | (with_reducible refine below_drewN ?_ _) | ((with_reducible apply below_via); focus (with_reducible assumption))))
              have hbo17 : Below wz.heap.size wz w17 := hbo16.trans (hBr17.mono hbo16.size)
              have K0 := keep_cell hb17 (show (World.drew _).cell? ⟨b, ox, none⟩ = _ from G0)
              have K1 := keep_cell hb17 (show (World.drew _).cell? ⟨b, ox + 1, none⟩ = _ from G1)
              have K2 := keep_cell hb17 (show (World.drew _).cell? ⟨b, ox + 2, none⟩ = _ from G2)
              have K3 := keep_cell hb17 (show (World.drew _).cell? ⟨b, ox + 3, none⟩ = _ from G3)
              have K4 := keep_cell hb17 (show (World.drew _).cell? ⟨b, ox + 4, none⟩ = _ from G4)
              have L0 := keep_cell hb17 (show (World.drew _).cell? ⟨wr.heap.size, 0, none⟩ = _ from J0)
              have L1 := keep_cell hb17 (show (World.drew _).cell? ⟨wr.heap.size, 1, none⟩ = _ from J1)
              have L2 := keep_cell hb17 (show (World.drew _).cell? ⟨wr.heap.size, 2, none⟩ = _ from J2)
              have L3 := keep_cell hb17 (show (World.drew _).cell? ⟨wr.heap.size, 3, none⟩ = _ from J3)
              have L4 := keep_cell hb17 (show (World.drew _).cell? ⟨wr.heap.size, 4, none⟩ = _ from J4)
              clear hb17 G0 G1 G2 G3 G4 J0 J1 J2 J3 J4 c17
              go_wp2_with fail
              have hHeld := And.intro (And.intro K0 (And.intro K1 (And.intro K2 (And.intro K3 K4)))) (And.intro L0 (And.intro L1 (And.intro L2 (And.intro L3 L4))))
              refine ⟨(by first | exact hHeld | exact fun _ => hHeld), ?_⟩
              refine wpAnyT_take2 (i := 47) (v := ?_) rfl rfl (by kernel_rfl) (by kernel_rfl) (by kernel_rfl) (by kernel_rfl) (fun _ _ _ h => h) (Or.inl ⟨by rfl, ?_⟩) (by first | assumption | trivial) ?_
              rotate_left
              · (intro w hSw; (try dsimp only at hSw); go_simp) <;> (with_reducible rfl)
              simp only [List.setIfInBounds_toArray, List.set_cons_zero, List.set_cons_succ]
              refine wpAnyT_take2 (i := 48) (v := ?_) rfl rfl (by kernel_rfl) (by kernel_rfl) (by kernel_rfl) (by kernel_rfl) (fun _ _ _ h => h) (Or.inl ⟨by rfl, ?_⟩) (by first | assumption | trivial) ?_
              rotate_left
              · (intro w hSw; (try dsimp only at hSw); go_simp) <;> (with_reducible rfl)
              simp only [List.setIfInBounds_toArray, List.set_cons_zero, List.set_cons_succ]
              refine wpAnyT_take2 (i := 49) (v := ?_) rfl rfl (by kernel_rfl) (by kernel_rfl) (by kernel_rfl) (by kernel_rfl) (fun _ _ _ h => h) (Or.inl ⟨by rfl, ?_⟩) (by first | assumption | trivial) ?_
              rotate_left
              · (intro w hSw; (try dsimp only at hSw); go_simp) <;> (with_reducible rfl)
              simp only [List.setIfInBounds_toArray, List.set_cons_zero, List.set_cons_succ]
              refine wpAnyT_done (by kernel_rfl) ?_ _
              clear hHeld K0 K1 K2 K3 K4 L0 L1 L2 L3 L4
              go_wp2_with fail
              go_roundw
              case rel => exact ⟨0 + 1, by omega, by go_num, hbo17⟩
              case measure => simp [intOf]; omega
            · clear htwo
              go_wp2_with fail
              have hHeld := And.intro (And.intro G0 (And.intro G1 (And.intro G2 (And.intro G3 G4)))) (And.intro J0 (And.intro J1 (And.intro J2 (And.intro J3 J4))))
              refine ⟨(by first | exact hHeld | exact fun _ => hHeld), ?_⟩
              refine wpAnyT_take2 (i := 39) (v := ?_) rfl rfl (by kernel_rfl) (by kernel_rfl) (by kernel_rfl) (by kernel_rfl) (fun _ _ _ h => h) (Or.inl ⟨by rfl, ?_⟩) (by first | assumption | trivial) ?_
              rotate_left
              · (intro w hSw; (try dsimp only at hSw); go_simp) <;> (with_reducible rfl)
              simp only [List.setIfInBounds_toArray, List.set_cons_zero, List.set_cons_succ]
              refine wpAnyT_take2 (i := 40) (v := ?_) rfl rfl (by kernel_rfl) (by kernel_rfl) (by kernel_rfl) (by kernel_rfl) (fun _ _ _ h => h) (Or.inl ⟨by rfl, ?_⟩) (by first | assumption | trivial) ?_
              rotate_left
              · (intro w hSw; (try dsimp only at hSw); go_simp) <;> (with_reducible rfl)
              simp only [List.setIfInBounds_toArray, List.set_cons_zero, List.set_cons_succ]
              refine wpAnyT_take2 (i := 41) (v := undef) rfl rfl (by kernel_rfl) (by kernel_rfl) (by kernel_rfl) (by kernel_rfl) (fun _ _ _ h => h) (Or.inr ⟨by rfl, rfl⟩) (by first | assumption | trivial) ?_
              simp only [List.setIfInBounds_toArray, List.set_cons_zero, List.set_cons_succ]
              refine wpAnyT_take2 (i := 42) (v := undef) rfl rfl (by kernel_rfl) (by kernel_rfl) (by kernel_rfl) (by kernel_rfl) (fun _ _ _ h => h) (Or.inr ⟨by rfl, rfl⟩) (by first | assumption | trivial) ?_
              simp only [List.setIfInBounds_toArray, List.set_cons_zero, List.set_cons_succ]
              refine wpAnyT_take2 (i := 43) (v := undef) rfl rfl (by kernel_rfl) (by kernel_rfl) (by kernel_rfl) (by kernel_rfl) (fun _ _ _ h => h) (Or.inr ⟨by rfl, rfl⟩) (by first | assumption | trivial) ?_
              simp only [List.setIfInBounds_toArray, List.set_cons_zero, List.set_cons_succ]
              refine wpAnyT_take2 (i := 44) (v := undef) rfl rfl (by kernel_rfl) (by kernel_rfl) (by kernel_rfl) (by kernel_rfl) (fun _ _ _ h => h) (Or.inr ⟨by rfl, rfl⟩) (by first | assumption | trivial) ?_
              simp only [List.setIfInBounds_toArray, List.set_cons_zero, List.set_cons_succ]
              refine wpAnyT_take2 (i := 45) (v := undef) rfl rfl (by kernel_rfl) (by kernel_rfl) (by kernel_rfl) (by kernel_rfl) (fun _ _ _ h => h) (Or.inr ⟨by rfl, rfl⟩) (by first | assumption | trivial) ?_
              simp only [List.setIfInBounds_toArray, List.set_cons_zero, List.set_cons_succ]
              refine wpAnyT_take2 (i := 46) (v := undef) rfl rfl (by kernel_rfl) (by kernel_rfl) (by kernel_rfl) (by kernel_rfl) (fun _ _ _ h => h) (Or.inr ⟨by rfl, rfl⟩) (by first | assumption | trivial) ?_
              simp only [List.setIfInBounds_toArray, List.set_cons_zero, List.set_cons_succ]
              refine wpAnyT_take2 (i := 47) (v := undef) rfl rfl (by kernel_rfl) (by kernel_rfl) (by kernel_rfl) (by kernel_rfl) (fun _ _ _ h => h) (Or.inr ⟨by rfl, rfl⟩) (by first | assumption | trivial) ?_
              simp only [List.setIfInBounds_toArray, List.set_cons_zero, List.set_cons_succ]
              refine wpAnyT_take2 (i := 48) (v := ?_) rfl rfl (by kernel_rfl) (by kernel_rfl) (by kernel_rfl) (by kernel_rfl) (fun _ _ _ h => h) (Or.inl ⟨by rfl, ?_⟩) (by first | assumption | trivial) ?_
              rotate_left
              · (intro w hSw; (try dsimp only at hSw); go_simp) <;> (with_reducible rfl)
              simp only [List.setIfInBounds_toArray, List.set_cons_zero, List.set_cons_succ]
              refine wpAnyT_take2 (i := 49) (v := ?_) rfl rfl (by kernel_rfl) (by kernel_rfl) (by kernel_rfl) (by kernel_rfl) (fun _ _ _ h => h) (Or.inl ⟨by rfl, ?_⟩) (by first | assumption | trivial) ?_
              rotate_left
              · (intro w hSw; (try dsimp only at hSw); go_simp) <;> (with_reducible rfl)
              simp only [List.setIfInBounds_toArray, List.set_cons_zero, List.set_cons_succ]
              refine wpAnyT_done (by kernel_rfl) ?_ _
              clear hHeld G0 G1 G2 G3 G4 J0 J1 J2 J3 J4
              go_wp2_with fail
              go_roundw
              case rel => exact ⟨0 + 1, by omega, by go_num, hbo16⟩
              case measure => simp [intOf]; omega
          · obtain ⟨i, hi⟩ : ∃ i, i + 1 = m := ⟨m - 1, by omega⟩
            have hil : i < ml.length := by omega
            obtain ⟨b2, ox2, hA3, hb2, hcl2⟩ := HMZ.out.1.at1 hil
            simp only [Option.some.injEq, Addr.mk.injEq, and_true] at hA3
            obtain ⟨rfl, rfl⟩ := hA3
            obtain ⟨h0, h1, h2, h3, h4⟩ := Cells.c5 (hcl2.keep (hbo.block b hb))
            have hsd : ¬ ml[m].dev < ml[i].dev ∧ (ml[i].dev = ml[m].dev → ¬ ml[m].seq ≤ ml[i].seq) := by
              subst hi
              have := sorted_at hso (i := i) (by simpa using hml)
              simp only [List.getElem_map] at this
              exact this
            clear hcl hcl2 hso
            generalize ml[m] = y at *
            generalize ml[i] = x at *
            obtain ⟨yd, yq, ⟨yA, yc, yl⟩, yt, yx⟩ := y
            obtain ⟨xd, xq, ⟨xA, xc, xl⟩, xt, xx⟩ := x
            simp only at hsd
            obtain ⟨hs1, hs2⟩ := hsd
            have HYA := Lib.hid hya
            have HY := Lib.hid hy
            have hmx : max (i : Int) 0 = (i : Int) := by omega
            have hw1 : IntKind.i64.wrap ((m : Int) - 1) = (i : Int) := by rw [IntKind.wrap_i64]; omega
            have hi0 : (i : Int) < (ml.length : Int) := by omega
            have hm1 : (0 : Int) < (m : Int) := by omega
            have hm2 : 0 < m := by omega
            have HI := Lib.hid hi
            clear hya hy hi hil hm0
            have q0 := kal (.cells #[.int .i64 xd, .int .i64 xq, .slice xA xl.length xc, .int .i64 xt, .string xx] 61) g0
            have q1 := kal (.cells #[.int .i64 xd, .int .i64 xq, .slice xA xl.length xc, .int .i64 xt, .string xx] 61) g1
            have q2 := kal (.cells #[.int .i64 xd, .int .i64 xq, .slice xA xl.length xc, .int .i64 xt, .string xx] 61) g2
            have q3 := kal (.cells #[.int .i64 xd, .int .i64 xq, .slice xA xl.length xc, .int .i64 xt, .string xx] 61) g3
            have q4 := kal (.cells #[.int .i64 xd, .int .i64 xq, .slice xA xl.length xc, .int .i64 xt, .string xx] 61) g4
            obtain ⟨j0, j1, j2, j3, j4, _, _⟩ := (Blk.new wr 61 #[.int .i64 xd, .int .i64 xq, .slice xA xl.length xc, .int .i64 xt, .string xx]).b5
            by_cases hd : xd = yd
            · have hs3 := hs2 hd
              have e1 : (xd == yd) = true := by simp [hd]
              have e2 : decide (xd = yd) = true := by simp [hd]
              clear hs2 hd
              go_wp2_with fail
              refine wp_region_T (fun w' => (w'.cell? ⟨b, ox + m * 5, none⟩ = some (.int .i64 yd) ∧ w'.cell? ⟨b, ox + m * 5 + 1, none⟩ = some (.int .i64 yq) ∧ w'.cell? ⟨b, ox + m * 5 + 2, none⟩ = some (.slice yA yl.length yc) ∧ w'.cell? ⟨b, ox + m * 5 + 3, none⟩ = some (.int .i64 yt) ∧ w'.cell? ⟨b, ox + m * 5 + 4, none⟩ = some (.string yx)) ∧ (w'.cell? ⟨wr.heap.size, 0, none⟩ = some (.int .i64 xd) ∧ w'.cell? ⟨wr.heap.size, 1, none⟩ = some (.int .i64 xq) ∧ w'.cell? ⟨wr.heap.size, 2, none⟩ = some (.slice xA xl.length xc) ∧ w'.cell? ⟨wr.heap.size, 3, none⟩ = some (.int .i64 xt) ∧ w'.cell? ⟨wr.heap.size, 4, none⟩ = some (.string xx))) (fun _ => false) (by kernel_rfl) ⟨⟨q0, q1, q2, q3, q4⟩, j0, j1, j2, j3, j4⟩ (fun hHeld => ?_)
              refine wpAnyT_take2 (i := 0) (v := ?_) rfl rfl (by kernel_rfl) (by kernel_rfl) (by kernel_rfl) (by kernel_rfl) (fun _ _ _ h => h) (Or.inl ⟨by rfl, ?_⟩) (by first | assumption | trivial) ?_
              rotate_left
              · (intro w hSw; (try dsimp only at hSw); go_simp) <;> (with_reducible rfl)
              simp only [List.setIfInBounds_toArray, List.set_cons_zero, List.set_cons_succ]
              refine wpAnyT_take2 (i := 1) (v := .bool true) rfl rfl (by kernel_rfl) (by kernel_rfl) (by kernel_rfl) (by kernel_rfl) (fun _ _ _ h => h) (Or.inl ⟨by rfl, ?_⟩) (by first | assumption | trivial) ?_
              · (intro w hSw; (try dsimp only at hSw); go_simp) <;> (first | (with_reducible rfl) | assumption | (simp; done) | (simp [*]; done) | (simp; omega))
              simp only [List.setIfInBounds_toArray, List.set_cons_zero, List.set_cons_succ]
              refine wpAnyT_take2 (i := 2) (v := ?_) rfl rfl (by kernel_rfl) (by kernel_rfl) (by kernel_rfl) (by kernel_rfl) (fun _ _ _ h => h) (Or.inl ⟨by rfl, ?_⟩) (by first | assumption | trivial) ?_
              rotate_left
              · (intro w hSw; (try dsimp only at hSw); go_simp) <;> (with_reducible rfl)
              simp only [List.setIfInBounds_toArray, List.set_cons_zero, List.set_cons_succ]
              refine wpAnyT_take2 (i := 3) (v := ?_) rfl rfl (by kernel_rfl) (by kernel_rfl) (by kernel_rfl) (by kernel_rfl) (fun _ _ _ h => h) (Or.inl ⟨by rfl, ?_⟩) (by first | assumption | trivial) ?_
              rotate_left
              · (intro w hSw; (try dsimp only at hSw); go_simp) <;> (with_reducible rfl)
              simp only [List.setIfInBounds_toArray, List.set_cons_zero, List.set_cons_succ]
              refine wpAnyT_take2 (i := 4) (v := ?_) rfl rfl (by kernel_rfl) (by kernel_rfl) (by kernel_rfl) (by kernel_rfl) (fun _ _ _ h => h) (Or.inl ⟨by rfl, ?_⟩) (by first | assumption | trivial) ?_
              rotate_left
              · (intro w hSw; (try dsimp only at hSw); go_simp) <;> (with_reducible rfl)
              simp only [List.setIfInBounds_toArray, List.set_cons_zero, List.set_cons_succ]
              refine wpAnyT_take2 (i := 5) (v := ?_) rfl rfl (by kernel_rfl) (by kernel_rfl) (by kernel_rfl) (by kernel_rfl) (fun _ _ _ h => h) (Or.inl ⟨by rfl, ?_⟩) (by first | assumption | trivial) ?_
              rotate_left
              · (intro w hSw; (try dsimp only at hSw); go_simp) <;> (with_reducible rfl)
              simp only [List.setIfInBounds_toArray, List.set_cons_zero, List.set_cons_succ]
              refine wpAnyT_take2 (i := 6) (v := ?_) rfl rfl (by kernel_rfl) (by kernel_rfl) (by kernel_rfl) (by kernel_rfl) (fun _ _ _ h => h) (Or.inl ⟨by rfl, ?_⟩) (by first | assumption | trivial) ?_
              rotate_left
              · (intro w hSw; (try dsimp only at hSw); go_simp) <;> (with_reducible rfl)
              simp only [List.setIfInBounds_toArray, List.set_cons_zero, List.set_cons_succ]
              refine wpAnyT_take2 (i := 7) (v := ?_) rfl rfl (by kernel_rfl) (by kernel_rfl) (by kernel_rfl) (by kernel_rfl) (fun _ _ _ h => h) (Or.inl ⟨by rfl, ?_⟩) (by first | assumption | trivial) ?_
              rotate_left
              · (intro w hSw; (try dsimp only at hSw); go_simp) <;> (with_reducible rfl)
              simp only [List.setIfInBounds_toArray, List.set_cons_zero, List.set_cons_succ]
              refine wpAnyT_take2 (i := 8) (v := ?_) rfl rfl (by kernel_rfl) (by kernel_rfl) (by kernel_rfl) (by kernel_rfl) (fun _ _ _ h => h) (Or.inl ⟨by rfl, ?_⟩) (by first | assumption | trivial) ?_
              rotate_left
              · (intro w hSw; (try dsimp only at hSw); go_simp) <;> (with_reducible rfl)
              simp only [List.setIfInBounds_toArray, List.set_cons_zero, List.set_cons_succ]
              refine wpAnyT_take2 (i := 9) (v := ?_) rfl rfl (by kernel_rfl) (by kernel_rfl) (by kernel_rfl) (by kernel_rfl) (fun _ _ _ h => h) (Or.inl ⟨by rfl, ?_⟩) (by first | assumption | trivial) ?_
              rotate_left
              · (intro w hSw; (try dsimp only at hSw); go_simp) <;> (with_reducible rfl)
              simp only [List.setIfInBounds_toArray, List.set_cons_zero, List.set_cons_succ]
              refine wpAnyT_take2 (i := 10) (v := .bool false) rfl rfl (by kernel_rfl) (by kernel_rfl) (by kernel_rfl) (by kernel_rfl) (fun _ _ _ h => h) (Or.inl ⟨by rfl, ?_⟩) (by first | assumption | trivial) ?_
              · (intro w hSw; (try dsimp only at hSw); go_simp) <;> (first | (with_reducible rfl) | assumption | (simp; done) | (simp [*]; done) | (simp; omega))
              simp only [List.setIfInBounds_toArray, List.set_cons_zero, List.set_cons_succ]
              refine wpAnyT_take2 (i := 11) (v := ?_) rfl rfl (by kernel_rfl) (by kernel_rfl) (by kernel_rfl) (by kernel_rfl) (fun _ _ _ h => h) (Or.inl ⟨by rfl, ?_⟩) (by first | assumption | trivial) ?_
              rotate_left
              · (intro w hSw; (try dsimp only at hSw); go_simp) <;> (with_reducible rfl)
              simp only [List.setIfInBounds_toArray, List.set_cons_zero, List.set_cons_succ]
              refine wpAnyT_take2 (i := 12) (v := ?_) rfl rfl (by kernel_rfl) (by kernel_rfl) (by kernel_rfl) (by kernel_rfl) (fun _ _ _ h => h) (Or.inl ⟨by rfl, ?_⟩) (by first | assumption | trivial) ?_
              rotate_left
              · (intro w hSw; (try dsimp only at hSw); go_simp) <;> (with_reducible rfl)
              simp only [List.setIfInBounds_toArray, List.set_cons_zero, List.set_cons_succ]
              refine wpAnyT_take2 (i := 13) (v := ?_) rfl rfl (by kernel_rfl) (by kernel_rfl) (by kernel_rfl) (by kernel_rfl) (fun _ _ _ h => h) (Or.inl ⟨by rfl, ?_⟩) (by first | assumption | trivial) ?_
              rotate_left
              · (intro w hSw; (try dsimp only at hSw); go_simp) <;> (with_reducible rfl)
              simp only [List.setIfInBounds_toArray, List.set_cons_zero, List.set_cons_succ]
              refine wpAnyT_take2 (i := 14) (v := ?_) rfl rfl (by kernel_rfl) (by kernel_rfl) (by kernel_rfl) (by kernel_rfl) (fun _ _ _ h => h) (Or.inl ⟨by rfl, ?_⟩) (by first | assumption | trivial) ?_
              rotate_left
              · (intro w hSw; (try dsimp only at hSw); go_simp) <;> (with_reducible rfl)
              simp only [List.setIfInBounds_toArray, List.set_cons_zero, List.set_cons_succ]
              refine wpAnyT_take2 (i := 15) (v := ?_) rfl rfl (by kernel_rfl) (by kernel_rfl) (by kernel_rfl) (by kernel_rfl) (fun _ _ _ h => h) (Or.inl ⟨by rfl, ?_⟩) (by first | assumption | trivial) ?_
              rotate_left
              · (intro w hSw; (try dsimp only at hSw); go_simp) <;> (with_reducible rfl)
              simp only [List.setIfInBounds_toArray, List.set_cons_zero, List.set_cons_succ]
              refine wpAnyT_take2 (i := 16) (v := ?_) rfl rfl (by kernel_rfl) (by kernel_rfl) (by kernel_rfl) (by kernel_rfl) (fun _ _ _ h => h) (Or.inl ⟨by rfl, ?_⟩) (by first | assumption | trivial) ?_
              rotate_left
              · (intro w hSw; (try dsimp only at hSw); go_simp) <;> (with_reducible rfl)
              simp only [List.setIfInBounds_toArray, List.set_cons_zero, List.set_cons_succ]
              refine wpAnyT_take2 (i := 17) (v := ?_) rfl rfl (by kernel_rfl) (by kernel_rfl) (by kernel_rfl) (by kernel_rfl) (fun _ _ _ h => h) (Or.inl ⟨by rfl, ?_⟩) (by first | assumption | trivial) ?_
              rotate_left
              · (intro w hSw; (try dsimp only at hSw); go_simp) <;> (with_reducible rfl)
              simp only [List.setIfInBounds_toArray, List.set_cons_zero, List.set_cons_succ]
              refine wpAnyT_take2 (i := 18) (v := ?_) rfl rfl (by kernel_rfl) (by kernel_rfl) (by kernel_rfl) (by kernel_rfl) (fun _ _ _ h => h) (Or.inl ⟨by rfl, ?_⟩) (by first | assumption | trivial) ?_
              rotate_left
              · (intro w hSw; (try dsimp only at hSw); go_simp) <;> (with_reducible rfl)
              simp only [List.setIfInBounds_toArray, List.set_cons_zero, List.set_cons_succ]
              refine wpAnyT_take2 (i := 19) (v := .bool true) rfl rfl (by kernel_rfl) (by kernel_rfl) (by kernel_rfl) (by kernel_rfl) (fun _ _ _ h => h) (Or.inl ⟨by rfl, ?_⟩) (by first | assumption | trivial) ?_
              · (intro w hSw; (try dsimp only at hSw); go_simp) <;> (first | (with_reducible rfl) | assumption | (simp; done) | (simp [*]; done) | (simp; omega))
              simp only [List.setIfInBounds_toArray, List.set_cons_zero, List.set_cons_succ]
              refine wpAnyT_take2 (i := 20) (v := ?_) rfl rfl (by kernel_rfl) (by kernel_rfl) (by kernel_rfl) (by kernel_rfl) (fun _ _ _ h => h) (Or.inl ⟨by rfl, ?_⟩) (by first | assumption | trivial) ?_
              rotate_left
              · (intro w hSw; (try dsimp only at hSw); go_simp) <;> (with_reducible rfl)
              simp only [List.setIfInBounds_toArray, List.set_cons_zero, List.set_cons_succ]
              refine wpAnyT_take2 (i := 21) (v := ?_) rfl rfl (by kernel_rfl) (by kernel_rfl) (by kernel_rfl) (by kernel_rfl) (fun _ _ _ h => h) (Or.inl ⟨by rfl, ?_⟩) (by first | assumption | trivial) ?_
              rotate_left
              · (intro w hSw; (try dsimp only at hSw); go_simp) <;> (with_reducible rfl)
              simp only [List.setIfInBounds_toArray, List.set_cons_zero, List.set_cons_succ]
              refine wpAnyT_take2 (i := 22) (v := ?_) rfl rfl (by kernel_rfl) (by kernel_rfl) (by kernel_rfl) (by kernel_rfl) (fun _ _ _ h => h) (Or.inl ⟨by rfl, ?_⟩) (by first | assumption | trivial) ?_
              rotate_left
              · (intro w hSw; (try dsimp only at hSw); go_simp) <;> (with_reducible rfl)
              simp only [List.setIfInBounds_toArray, List.set_cons_zero, List.set_cons_succ]
              refine wpAnyT_take2 (i := 23) (v := ?_) rfl rfl (by kernel_rfl) (by kernel_rfl) (by kernel_rfl) (by kernel_rfl) (fun _ _ _ h => h) (Or.inl ⟨by rfl, ?_⟩) (by first | assumption | trivial) ?_
              rotate_left
              · (intro w hSw; (try dsimp only at hSw); go_simp) <;> (with_reducible rfl)
              simp only [List.setIfInBounds_toArray, List.set_cons_zero, List.set_cons_succ]
              refine wpAnyT_take2 (i := 24) (v := ?_) rfl rfl (by kernel_rfl) (by kernel_rfl) (by kernel_rfl) (by kernel_rfl) (fun _ _ _ h => h) (Or.inl ⟨by rfl, ?_⟩) (by first | assumption | trivial) ?_
              rotate_left
              · (intro w hSw; (try dsimp only at hSw); go_simp) <;> (with_reducible rfl)
              simp only [List.setIfInBounds_toArray, List.set_cons_zero, List.set_cons_succ]
              refine wpAnyT_take2 (i := 25) (v := ?_) rfl rfl (by kernel_rfl) (by kernel_rfl) (by kernel_rfl) (by kernel_rfl) (fun _ _ _ h => h) (Or.inl ⟨by rfl, ?_⟩) (by first | assumption | trivial) ?_
              rotate_left
              · (intro w hSw; (try dsimp only at hSw); go_simp) <;> (with_reducible rfl)
              simp only [List.setIfInBounds_toArray, List.set_cons_zero, List.set_cons_succ]
              refine wpAnyT_take2 (i := 26) (v := ?_) rfl rfl (by kernel_rfl) (by kernel_rfl) (by kernel_rfl) (by kernel_rfl) (fun _ _ _ h => h) (Or.inl ⟨by rfl, ?_⟩) (by first | assumption | trivial) ?_
              rotate_left
              · (intro w hSw; (try dsimp only at hSw); go_simp) <;> (with_reducible rfl)
              simp only [List.setIfInBounds_toArray, List.set_cons_zero, List.set_cons_succ]
              refine wpAnyT_take2 (i := 27) (v := ?_) rfl rfl (by kernel_rfl) (by kernel_rfl) (by kernel_rfl) (by kernel_rfl) (fun _ _ _ h => h) (Or.inl ⟨by rfl, ?_⟩) (by first | assumption | trivial) ?_
              rotate_left
              · (intro w hSw; (try dsimp only at hSw); go_simp) <;> (with_reducible rfl)
              simp only [List.setIfInBounds_toArray, List.set_cons_zero, List.set_cons_succ]
              refine wpAnyT_take2 (i := 28) (v := .bool false) rfl rfl (by kernel_rfl) (by kernel_rfl) (by kernel_rfl) (by kernel_rfl) (fun _ _ _ h => h) (Or.inl ⟨by rfl, ?_⟩) (by first | assumption | trivial) ?_
              · (intro w hSw; (try dsimp only at hSw); go_simp) <;> (first | (with_reducible rfl) | assumption | (simp; done) | (simp [*]; done) | (simp; omega))
              simp only [List.setIfInBounds_toArray, List.set_cons_zero, List.set_cons_succ]
              refine wpAnyT_take2 (i := 29) (v := ?_) rfl rfl (by kernel_rfl) (by kernel_rfl) (by kernel_rfl) (by kernel_rfl) (fun _ _ _ h => h) (Or.inl ⟨by rfl, ?_⟩) (by first | assumption | trivial) ?_
              rotate_left
              · (intro w hSw; (try dsimp only at hSw); go_simp) <;> (with_reducible rfl)
              simp only [List.setIfInBounds_toArray, List.set_cons_zero, List.set_cons_succ]
              refine wpAnyT_take2 (i := 30) (v := ?_) rfl rfl (by kernel_rfl) (by kernel_rfl) (by kernel_rfl) (by kernel_rfl) (fun _ _ _ h => h) (Or.inl ⟨by rfl, ?_⟩) (by first | assumption | trivial) ?_
              rotate_left
              · (intro w hSw; (try dsimp only at hSw); go_simp) <;> (with_reducible rfl)
              simp only [List.setIfInBounds_toArray, List.set_cons_zero, List.set_cons_succ]
              refine wpAnyT_take2 (i := 31) (v := ?_) rfl rfl (by kernel_rfl) (by kernel_rfl) (by kernel_rfl) (by kernel_rfl) (fun _ _ _ h => h) (Or.inl ⟨by rfl, ?_⟩) (by first | assumption | trivial) ?_
              rotate_left
              · (intro w hSw; (try dsimp only at hSw); go_simp) <;> (with_reducible rfl)
              simp only [List.setIfInBounds_toArray, List.set_cons_zero, List.set_cons_succ]
              refine wpAnyT_take2 (i := 32) (v := ?_) rfl rfl (by kernel_rfl) (by kernel_rfl) (by kernel_rfl) (by kernel_rfl) (fun _ _ _ h => h) (Or.inl ⟨by rfl, ?_⟩) (by first | assumption | trivial) ?_
              rotate_left
              · (intro w hSw; (try dsimp only at hSw); go_simp) <;> (with_reducible rfl)
              simp only [List.setIfInBounds_toArray, List.set_cons_zero, List.set_cons_succ]
              refine wpAnyT_take2 (i := 33) (v := ?_) rfl rfl (by kernel_rfl) (by kernel_rfl) (by kernel_rfl) (by kernel_rfl) (fun _ _ _ h => h) (Or.inl ⟨by rfl, ?_⟩) (by first | assumption | trivial) ?_
              rotate_left
              · (intro w hSw; (try dsimp only at hSw); go_simp) <;> (with_reducible rfl)
              simp only [List.setIfInBounds_toArray, List.set_cons_zero, List.set_cons_succ]
              refine wpAnyT_take2 (i := 34) (v := ?_) rfl rfl (by kernel_rfl) (by kernel_rfl) (by kernel_rfl) (by kernel_rfl) (fun _ _ _ h => h) (Or.inl ⟨by rfl, ?_⟩) (by first | assumption | trivial) ?_
              rotate_left
              · (intro w hSw; (try dsimp only at hSw); go_simp) <;> (with_reducible rfl)
              simp only [List.setIfInBounds_toArray, List.set_cons_zero, List.set_cons_succ]
              refine wpAnyT_take2 (i := 35) (v := ?_) rfl rfl (by kernel_rfl) (by kernel_rfl) (by kernel_rfl) (by kernel_rfl) (fun _ _ _ h => h) (Or.inl ⟨by rfl, ?_⟩) (by first | assumption | trivial) ?_
              rotate_left
              · (intro w hSw; (try dsimp only at hSw); go_simp) <;> (with_reducible rfl)
              simp only [List.setIfInBounds_toArray, List.set_cons_zero, List.set_cons_succ]
              refine wpAnyT_take2 (i := 36) (v := ?_) rfl rfl (by kernel_rfl) (by kernel_rfl) (by kernel_rfl) (by kernel_rfl) (fun _ _ _ h => h) (Or.inl ⟨by rfl, ?_⟩) (by first | assumption | trivial) ?_
              rotate_left
              · (intro w hSw; (try dsimp only at hSw); go_simp) <;> (with_reducible rfl)
              simp only [List.setIfInBounds_toArray, List.set_cons_zero, List.set_cons_succ]
              refine wpAnyT_take2 (i := 37) (v := ?_) rfl rfl (by kernel_rfl) (by kernel_rfl) (by kernel_rfl) (by kernel_rfl) (fun _ _ _ h => h) (Or.inl ⟨by rfl, ?_⟩) (by first | assumption | trivial) ?_
              rotate_left
              · (intro w hSw; (try dsimp only at hSw); go_simp) <;> (with_reducible rfl)
              simp only [List.setIfInBounds_toArray, List.set_cons_zero, List.set_cons_succ]
              clear hHeld
              refine wpAnyT_next (i := 38) (by kernel_rfl) rfl ?_
              go_wp2_with fail
              refine (lhas ⟨sA, sc, sl⟩ ⟨yd, yq, ⟨yA, yc, yl⟩, yt, yx⟩ _ (HS.out.later (by repeat (first | (with_reducible exact hB14) | (with_reducible exact Below.refl _ _) | ((with_reducible refine below_setr ?_ ?_); focus (first | (simp; done) | (simp; omega) | omega)) | ((with_reducible refine below_allocr ?_ ?_); focus (first | (simp; done) | (simp; omega) | omega)) | (with_reducible refine Below.drew ?_) | (with_reducible refine below_drewN ?_ _) | ((with_reducible apply below_via); focus (with_reducible assumption)))) (Nat.le_refl _)) (HYA.out.below' (by repeat (first | (with_reducible exact hbo) | (with_reducible exact Below.refl _ _) | ((with_reducible refine below_setr ?_ ?_); focus (first | (simp; done) | (simp; omega) | omega)) | ((with_reducible refine below_allocr ?_ ?_); focus (first | (simp; done) | (simp; omega) | omega)) | (with_reducible refine Below.drew ?_) | (with_reducible refine below_drewN ?_ _) | ((with_reducible apply below_via); focus (with_reducible assumption)))) (Nat.le_refl _))).mono ?_
              rintro e w16 ⟨rfl, hb16⟩
              have hBr : Below wr.heap.size wr w16 := (by repeat (first | (with_reducible exact Below.refl _ _) | ((with_reducible refine below_setr ?_ ?_); focus (first | (simp; done) | (simp; omega) | omega)) | ((with_reducible refine below_allocr ?_ ?_); focus (first | (simp; done) | (simp; omega) | omega)) | (with_reducible refine Below.drew ?_) | (with_reducible refine below_drewN ?_ _) | ((with_reducible apply below_via); focus (with_reducible assumption))))
              have hB16 : Below w.heap.size w w16 := hB14.trans (hBr.mono hz14)
              have hbo16 : Below wz.heap.size wz w16 := hbo.trans (hBr.mono hzz)
              have G0 := keep_cell hb16 (show (World.drew _).cell? ⟨b, ox + m * 5, none⟩ = _ from q0)
              have G1 := keep_cell hb16 (show (World.drew _).cell? ⟨b, ox + m * 5 + 1, none⟩ = _ from q1)
              have G2 := keep_cell hb16 (show (World.drew _).cell? ⟨b, ox + m * 5 + 2, none⟩ = _ from q2)
              have G3 := keep_cell hb16 (show (World.drew _).cell? ⟨b, ox + m * 5 + 3, none⟩ = _ from q3)
              have G4 := keep_cell hb16 (show (World.drew _).cell? ⟨b, ox + m * 5 + 4, none⟩ = _ from q4)
              have J0 := keep_cell hb16 (show (World.drew _).cell? ⟨wr.heap.size, 0, none⟩ = _ from j0)
              have J1 := keep_cell hb16 (show (World.drew _).cell? ⟨wr.heap.size, 1, none⟩ = _ from j1)
              have J2 := keep_cell hb16 (show (World.drew _).cell? ⟨wr.heap.size, 2, none⟩ = _ from j2)
              have J3 := keep_cell hb16 (show (World.drew _).cell? ⟨wr.heap.size, 3, none⟩ = _ from j3)
              have J4 := keep_cell hb16 (show (World.drew _).cell? ⟨wr.heap.size, 4, none⟩ = _ from j4)
              clear hb16 q0 q1 q2 q3 q4 j0 j1 j2 j3 j4
              have htwo := fun h => hasN_two HGD.out (x := Note.d ⟨yd, yq, ⟨yA, yc, yl⟩, yt, yx⟩) (List.mem_map_of_mem (f := Note.d) HY.out) h
              simp only
              generalize hasN (sl.map Note.d) (Note.d ⟨yd, yq, ⟨yA, yc, yl⟩, yt, yx⟩) = va at *
              rcases va with _ | _
              · have HTW := Lib.hid (htwo rfl)
                clear htwo
                go_wp2_with fail
                have hHeld := And.intro (And.intro G0 (And.intro G1 (And.intro G2 (And.intro G3 G4)))) (And.intro J0 (And.intro J1 (And.intro J2 (And.intro J3 J4))))
                refine ⟨(by first | exact hHeld | exact fun _ => hHeld), ?_⟩
                refine wpAnyT_take2 (i := 39) (v := ?_) rfl rfl (by kernel_rfl) (by kernel_rfl) (by kernel_rfl) (by kernel_rfl) (fun _ _ _ h => h) (Or.inl ⟨by rfl, ?_⟩) (by first | assumption | trivial) ?_
                rotate_left
                · (intro w hSw; (try dsimp only at hSw); go_simp) <;> (with_reducible rfl)
                simp only [List.setIfInBounds_toArray, List.set_cons_zero, List.set_cons_succ]
                refine wpAnyT_take2 (i := 40) (v := ?_) rfl rfl (by kernel_rfl) (by kernel_rfl) (by kernel_rfl) (by kernel_rfl) (fun _ _ _ h => h) (Or.inl ⟨by rfl, ?_⟩) (by first | assumption | trivial) ?_
                rotate_left
                · (intro w hSw; (try dsimp only at hSw); go_simp) <;> (with_reducible rfl)
                simp only [List.setIfInBounds_toArray, List.set_cons_zero, List.set_cons_succ]
                refine wpAnyT_take2 (i := 41) (v := ?_) rfl rfl (by kernel_rfl) (by kernel_rfl) (by kernel_rfl) (by kernel_rfl) (fun _ _ _ h => h) (Or.inl ⟨by rfl, ?_⟩) (by first | assumption | trivial) ?_
                rotate_left
                · (intro w hSw; (try dsimp only at hSw); go_simp) <;> (with_reducible rfl)
                simp only [List.setIfInBounds_toArray, List.set_cons_zero, List.set_cons_succ]
                refine wpAnyT_take2 (i := 42) (v := ?_) rfl rfl (by kernel_rfl) (by kernel_rfl) (by kernel_rfl) (by kernel_rfl) (fun _ _ _ h => h) (Or.inl ⟨by rfl, ?_⟩) (by first | assumption | trivial) ?_
                rotate_left
                · (intro w hSw; (try dsimp only at hSw); go_simp) <;> (with_reducible rfl)
                simp only [List.setIfInBounds_toArray, List.set_cons_zero, List.set_cons_succ]
                refine wpAnyT_take2 (i := 43) (v := ?_) rfl rfl (by kernel_rfl) (by kernel_rfl) (by kernel_rfl) (by kernel_rfl) (fun _ _ _ h => h) (Or.inl ⟨by rfl, ?_⟩) (by first | assumption | trivial) ?_
                rotate_left
                · (intro w hSw; (try dsimp only at hSw); go_simp) <;> (with_reducible rfl)
                simp only [List.setIfInBounds_toArray, List.set_cons_zero, List.set_cons_succ]
                refine wpAnyT_take2 (i := 44) (v := ?_) rfl rfl (by kernel_rfl) (by kernel_rfl) (by kernel_rfl) (by kernel_rfl) (fun _ _ _ h => h) (Or.inl ⟨by rfl, ?_⟩) (by first | assumption | trivial) ?_
                rotate_left
                · (intro w hSw; (try dsimp only at hSw); go_simp) <;> (with_reducible rfl)
                simp only [List.setIfInBounds_toArray, List.set_cons_zero, List.set_cons_succ]
                refine wpAnyT_take2 (i := 45) (v := ?_) rfl rfl (by kernel_rfl) (by kernel_rfl) (by kernel_rfl) (by kernel_rfl) (fun _ _ _ h => h) (Or.inl ⟨by rfl, ?_⟩) (by first | assumption | trivial) ?_
                rotate_left
                · (intro w hSw; (try dsimp only at hSw); go_simp) <;> (with_reducible rfl)
                simp only [List.setIfInBounds_toArray, List.set_cons_zero, List.set_cons_succ]
                clear hHeld
                refine wpAnyT_next (i := 46) (by kernel_rfl) rfl ?_
                go_wp2_with fail
                have c17 := lhas ⟨tA, tc, tl⟩ ⟨yd, yq, ⟨yA, yc, yl⟩, yt, yx⟩ w16 (HT.out.later hB16 (Nat.le_refl _)) (HYA.out.below' hBr (Nat.le_refl _))
                simp only [HTW.out] at c17
                refine c17.mono ?_
                rintro e w17 ⟨rfl, hb17⟩
                have hBr17 : Below w16.heap.size w16 w17 := (by repeat (first | (with_reducible exact Below.refl _ _) | ((with_reducible refine below_setr ?_ ?_); focus (first | (simp; done) | (simp; omega) | omega)) | ((with_reducible refine below_allocr ?_ ?_); focus (first | (simp; done) | (simp; omega) | omega)) | (with_reducible refine Below.drew ?_) | (with_reducible refine below_drewN ?_ _) | ((with_reducible apply below_via); focus (with_reducible assumption))))
                have hbo17 : Below wz.heap.size wz w17 := hbo16.trans (hBr17.mono hbo16.size)
                have K0 := keep_cell hb17 (show (World.drew _).cell? ⟨b, ox + m * 5, none⟩ = _ from G0)
                have K1 := keep_cell hb17 (show (World.drew _).cell? ⟨b, ox + m * 5 + 1, none⟩ = _ from G1)
                have K2 := keep_cell hb17 (show (World.drew _).cell? ⟨b, ox + m * 5 + 2, none⟩ = _ from G2)
                have K3 := keep_cell hb17 (show (World.drew _).cell? ⟨b, ox + m * 5 + 3, none⟩ = _ from G3)
                have K4 := keep_cell hb17 (show (World.drew _).cell? ⟨b, ox + m * 5 + 4, none⟩ = _ from G4)
                have L0 := keep_cell hb17 (show (World.drew _).cell? ⟨wr.heap.size, 0, none⟩ = _ from J0)
                have L1 := keep_cell hb17 (show (World.drew _).cell? ⟨wr.heap.size, 1, none⟩ = _ from J1)
                have L2 := keep_cell hb17 (show (World.drew _).cell? ⟨wr.heap.size, 2, none⟩ = _ from J2)
                have L3 := keep_cell hb17 (show (World.drew _).cell? ⟨wr.heap.size, 3, none⟩ = _ from J3)
                have L4 := keep_cell hb17 (show (World.drew _).cell? ⟨wr.heap.size, 4, none⟩ = _ from J4)
                clear hb17 G0 G1 G2 G3 G4 J0 J1 J2 J3 J4 c17
                go_wp2_with fail
                have hHeld := And.intro (And.intro K0 (And.intro K1 (And.intro K2 (And.intro K3 K4)))) (And.intro L0 (And.intro L1 (And.intro L2 (And.intro L3 L4))))
                refine ⟨(by first | exact hHeld | exact fun _ => hHeld), ?_⟩
                refine wpAnyT_take2 (i := 47) (v := ?_) rfl rfl (by kernel_rfl) (by kernel_rfl) (by kernel_rfl) (by kernel_rfl) (fun _ _ _ h => h) (Or.inl ⟨by rfl, ?_⟩) (by first | assumption | trivial) ?_
                rotate_left
                · (intro w hSw; (try dsimp only at hSw); go_simp) <;> (with_reducible rfl)
                simp only [List.setIfInBounds_toArray, List.set_cons_zero, List.set_cons_succ]
                refine wpAnyT_take2 (i := 48) (v := ?_) rfl rfl (by kernel_rfl) (by kernel_rfl) (by kernel_rfl) (by kernel_rfl) (fun _ _ _ h => h) (Or.inl ⟨by rfl, ?_⟩) (by first | assumption | trivial) ?_
                rotate_left
                · (intro w hSw; (try dsimp only at hSw); go_simp) <;> (with_reducible rfl)
                simp only [List.setIfInBounds_toArray, List.set_cons_zero, List.set_cons_succ]
                refine wpAnyT_take2 (i := 49) (v := ?_) rfl rfl (by kernel_rfl) (by kernel_rfl) (by kernel_rfl) (by kernel_rfl) (fun _ _ _ h => h) (Or.inl ⟨by rfl, ?_⟩) (by first | assumption | trivial) ?_
                rotate_left
                · (intro w hSw; (try dsimp only at hSw); go_simp) <;> (with_reducible rfl)
                simp only [List.setIfInBounds_toArray, List.set_cons_zero, List.set_cons_succ]
                refine wpAnyT_done (by kernel_rfl) ?_ _
                clear hHeld K0 K1 K2 K3 K4 L0 L1 L2 L3 L4
                go_wp2_with fail
                go_roundw
                case rel => exact ⟨m + 1, by omega, by go_num, hbo17⟩
                case measure => simp [intOf]; omega
              · clear htwo
                go_wp2_with fail
                have hHeld := And.intro (And.intro G0 (And.intro G1 (And.intro G2 (And.intro G3 G4)))) (And.intro J0 (And.intro J1 (And.intro J2 (And.intro J3 J4))))
                refine ⟨(by first | exact hHeld | exact fun _ => hHeld), ?_⟩
                refine wpAnyT_take2 (i := 39) (v := ?_) rfl rfl (by kernel_rfl) (by kernel_rfl) (by kernel_rfl) (by kernel_rfl) (fun _ _ _ h => h) (Or.inl ⟨by rfl, ?_⟩) (by first | assumption | trivial) ?_
                rotate_left
                · (intro w hSw; (try dsimp only at hSw); go_simp) <;> (with_reducible rfl)
                simp only [List.setIfInBounds_toArray, List.set_cons_zero, List.set_cons_succ]
                refine wpAnyT_take2 (i := 40) (v := ?_) rfl rfl (by kernel_rfl) (by kernel_rfl) (by kernel_rfl) (by kernel_rfl) (fun _ _ _ h => h) (Or.inl ⟨by rfl, ?_⟩) (by first | assumption | trivial) ?_
                rotate_left
                · (intro w hSw; (try dsimp only at hSw); go_simp) <;> (with_reducible rfl)
                simp only [List.setIfInBounds_toArray, List.set_cons_zero, List.set_cons_succ]
                refine wpAnyT_take2 (i := 41) (v := undef) rfl rfl (by kernel_rfl) (by kernel_rfl) (by kernel_rfl) (by kernel_rfl) (fun _ _ _ h => h) (Or.inr ⟨by rfl, rfl⟩) (by first | assumption | trivial) ?_
                simp only [List.setIfInBounds_toArray, List.set_cons_zero, List.set_cons_succ]
                refine wpAnyT_take2 (i := 42) (v := undef) rfl rfl (by kernel_rfl) (by kernel_rfl) (by kernel_rfl) (by kernel_rfl) (fun _ _ _ h => h) (Or.inr ⟨by rfl, rfl⟩) (by first | assumption | trivial) ?_
                simp only [List.setIfInBounds_toArray, List.set_cons_zero, List.set_cons_succ]
                refine wpAnyT_take2 (i := 43) (v := undef) rfl rfl (by kernel_rfl) (by kernel_rfl) (by kernel_rfl) (by kernel_rfl) (fun _ _ _ h => h) (Or.inr ⟨by rfl, rfl⟩) (by first | assumption | trivial) ?_
                simp only [List.setIfInBounds_toArray, List.set_cons_zero, List.set_cons_succ]
                refine wpAnyT_take2 (i := 44) (v := undef) rfl rfl (by kernel_rfl) (by kernel_rfl) (by kernel_rfl) (by kernel_rfl) (fun _ _ _ h => h) (Or.inr ⟨by rfl, rfl⟩) (by first | assumption | trivial) ?_
                simp only [List.setIfInBounds_toArray, List.set_cons_zero, List.set_cons_succ]
                refine wpAnyT_take2 (i := 45) (v := undef) rfl rfl (by kernel_rfl) (by kernel_rfl) (by kernel_rfl) (by kernel_rfl) (fun _ _ _ h => h) (Or.inr ⟨by rfl, rfl⟩) (by first | assumption | trivial) ?_
                simp only [List.setIfInBounds_toArray, List.set_cons_zero, List.set_cons_succ]
                refine wpAnyT_take2 (i := 46) (v := undef) rfl rfl (by kernel_rfl) (by kernel_rfl) (by kernel_rfl) (by kernel_rfl) (fun _ _ _ h => h) (Or.inr ⟨by rfl, rfl⟩) (by first | assumption | trivial) ?_
                simp only [List.setIfInBounds_toArray, List.set_cons_zero, List.set_cons_succ]
                refine wpAnyT_take2 (i := 47) (v := undef) rfl rfl (by kernel_rfl) (by kernel_rfl) (by kernel_rfl) (by kernel_rfl) (fun _ _ _ h => h) (Or.inr ⟨by rfl, rfl⟩) (by first | assumption | trivial) ?_
                simp only [List.setIfInBounds_toArray, List.set_cons_zero, List.set_cons_succ]
                refine wpAnyT_take2 (i := 48) (v := ?_) rfl rfl (by kernel_rfl) (by kernel_rfl) (by kernel_rfl) (by kernel_rfl) (fun _ _ _ h => h) (Or.inl ⟨by rfl, ?_⟩) (by first | assumption | trivial) ?_
                rotate_left
                · (intro w hSw; (try dsimp only at hSw); go_simp) <;> (with_reducible rfl)
                simp only [List.setIfInBounds_toArray, List.set_cons_zero, List.set_cons_succ]
                refine wpAnyT_take2 (i := 49) (v := ?_) rfl rfl (by kernel_rfl) (by kernel_rfl) (by kernel_rfl) (by kernel_rfl) (fun _ _ _ h => h) (Or.inl ⟨by rfl, ?_⟩) (by first | assumption | trivial) ?_
                rotate_left
                · (intro w hSw; (try dsimp only at hSw); go_simp) <;> (with_reducible rfl)
                simp only [List.setIfInBounds_toArray, List.set_cons_zero, List.set_cons_succ]
                refine wpAnyT_done (by kernel_rfl) ?_ _
                clear hHeld G0 G1 G2 G3 G4 J0 J1 J2 J3 J4
                go_wp2_with fail
                go_roundw
                case rel => exact ⟨m + 1, by omega, by go_num, hbo16⟩
                case measure => simp [intOf]; omega
            · have e1 : (xd == yd) = false := by simp [hd]
              have e2 : decide (xd = yd) = false := by simp [hd]
              clear hs2 hd
              go_wp2_with fail
              refine wp_region_T (fun w' => (w'.cell? ⟨b, ox + m * 5, none⟩ = some (.int .i64 yd) ∧ w'.cell? ⟨b, ox + m * 5 + 1, none⟩ = some (.int .i64 yq) ∧ w'.cell? ⟨b, ox + m * 5 + 2, none⟩ = some (.slice yA yl.length yc) ∧ w'.cell? ⟨b, ox + m * 5 + 3, none⟩ = some (.int .i64 yt) ∧ w'.cell? ⟨b, ox + m * 5 + 4, none⟩ = some (.string yx)) ∧ (w'.cell? ⟨wr.heap.size, 0, none⟩ = some (.int .i64 xd) ∧ w'.cell? ⟨wr.heap.size, 1, none⟩ = some (.int .i64 xq) ∧ w'.cell? ⟨wr.heap.size, 2, none⟩ = some (.slice xA xl.length xc) ∧ w'.cell? ⟨wr.heap.size, 3, none⟩ = some (.int .i64 xt) ∧ w'.cell? ⟨wr.heap.size, 4, none⟩ = some (.string xx))) (fun _ => false) (by kernel_rfl) ⟨⟨q0, q1, q2, q3, q4⟩, j0, j1, j2, j3, j4⟩ (fun hHeld => ?_)
              refine wpAnyT_take2 (i := 0) (v := ?_) rfl rfl (by kernel_rfl) (by kernel_rfl) (by kernel_rfl) (by kernel_rfl) (fun _ _ _ h => h) (Or.inl ⟨by rfl, ?_⟩) (by first | assumption | trivial) ?_
              rotate_left
              · (intro w hSw; (try dsimp only at hSw); go_simp) <;> (with_reducible rfl)
              simp only [List.setIfInBounds_toArray, List.set_cons_zero, List.set_cons_succ]
              refine wpAnyT_take2 (i := 1) (v := .bool true) rfl rfl (by kernel_rfl) (by kernel_rfl) (by kernel_rfl) (by kernel_rfl) (fun _ _ _ h => h) (Or.inl ⟨by rfl, ?_⟩) (by first | assumption | trivial) ?_
              · (intro w hSw; (try dsimp only at hSw); go_simp) <;> (first | (with_reducible rfl) | assumption | (simp; done) | (simp [*]; done) | (simp; omega))
              simp only [List.setIfInBounds_toArray, List.set_cons_zero, List.set_cons_succ]
              refine wpAnyT_take2 (i := 2) (v := ?_) rfl rfl (by kernel_rfl) (by kernel_rfl) (by kernel_rfl) (by kernel_rfl) (fun _ _ _ h => h) (Or.inl ⟨by rfl, ?_⟩) (by first | assumption | trivial) ?_
              rotate_left
              · (intro w hSw; (try dsimp only at hSw); go_simp) <;> (with_reducible rfl)
              simp only [List.setIfInBounds_toArray, List.set_cons_zero, List.set_cons_succ]
              refine wpAnyT_take2 (i := 3) (v := ?_) rfl rfl (by kernel_rfl) (by kernel_rfl) (by kernel_rfl) (by kernel_rfl) (fun _ _ _ h => h) (Or.inl ⟨by rfl, ?_⟩) (by first | assumption | trivial) ?_
              rotate_left
              · (intro w hSw; (try dsimp only at hSw); go_simp) <;> (with_reducible rfl)
              simp only [List.setIfInBounds_toArray, List.set_cons_zero, List.set_cons_succ]
              refine wpAnyT_take2 (i := 4) (v := ?_) rfl rfl (by kernel_rfl) (by kernel_rfl) (by kernel_rfl) (by kernel_rfl) (fun _ _ _ h => h) (Or.inl ⟨by rfl, ?_⟩) (by first | assumption | trivial) ?_
              rotate_left
              · (intro w hSw; (try dsimp only at hSw); go_simp) <;> (with_reducible rfl)
              simp only [List.setIfInBounds_toArray, List.set_cons_zero, List.set_cons_succ]
              refine wpAnyT_take2 (i := 5) (v := ?_) rfl rfl (by kernel_rfl) (by kernel_rfl) (by kernel_rfl) (by kernel_rfl) (fun _ _ _ h => h) (Or.inl ⟨by rfl, ?_⟩) (by first | assumption | trivial) ?_
              rotate_left
              · (intro w hSw; (try dsimp only at hSw); go_simp) <;> (with_reducible rfl)
              simp only [List.setIfInBounds_toArray, List.set_cons_zero, List.set_cons_succ]
              refine wpAnyT_take2 (i := 6) (v := ?_) rfl rfl (by kernel_rfl) (by kernel_rfl) (by kernel_rfl) (by kernel_rfl) (fun _ _ _ h => h) (Or.inl ⟨by rfl, ?_⟩) (by first | assumption | trivial) ?_
              rotate_left
              · (intro w hSw; (try dsimp only at hSw); go_simp) <;> (with_reducible rfl)
              simp only [List.setIfInBounds_toArray, List.set_cons_zero, List.set_cons_succ]
              refine wpAnyT_take2 (i := 7) (v := ?_) rfl rfl (by kernel_rfl) (by kernel_rfl) (by kernel_rfl) (by kernel_rfl) (fun _ _ _ h => h) (Or.inl ⟨by rfl, ?_⟩) (by first | assumption | trivial) ?_
              rotate_left
              · (intro w hSw; (try dsimp only at hSw); go_simp) <;> (with_reducible rfl)
              simp only [List.setIfInBounds_toArray, List.set_cons_zero, List.set_cons_succ]
              refine wpAnyT_take2 (i := 8) (v := ?_) rfl rfl (by kernel_rfl) (by kernel_rfl) (by kernel_rfl) (by kernel_rfl) (fun _ _ _ h => h) (Or.inl ⟨by rfl, ?_⟩) (by first | assumption | trivial) ?_
              rotate_left
              · (intro w hSw; (try dsimp only at hSw); go_simp) <;> (with_reducible rfl)
              simp only [List.setIfInBounds_toArray, List.set_cons_zero, List.set_cons_succ]
              refine wpAnyT_take2 (i := 9) (v := ?_) rfl rfl (by kernel_rfl) (by kernel_rfl) (by kernel_rfl) (by kernel_rfl) (fun _ _ _ h => h) (Or.inl ⟨by rfl, ?_⟩) (by first | assumption | trivial) ?_
              rotate_left
              · (intro w hSw; (try dsimp only at hSw); go_simp) <;> (with_reducible rfl)
              simp only [List.setIfInBounds_toArray, List.set_cons_zero, List.set_cons_succ]
              refine wpAnyT_take2 (i := 10) (v := .bool false) rfl rfl (by kernel_rfl) (by kernel_rfl) (by kernel_rfl) (by kernel_rfl) (fun _ _ _ h => h) (Or.inl ⟨by rfl, ?_⟩) (by first | assumption | trivial) ?_
              · (intro w hSw; (try dsimp only at hSw); go_simp) <;> (first | (with_reducible rfl) | assumption | (simp; done) | (simp [*]; done) | (simp; omega))
              simp only [List.setIfInBounds_toArray, List.set_cons_zero, List.set_cons_succ]
              refine wpAnyT_take2 (i := 11) (v := ?_) rfl rfl (by kernel_rfl) (by kernel_rfl) (by kernel_rfl) (by kernel_rfl) (fun _ _ _ h => h) (Or.inl ⟨by rfl, ?_⟩) (by first | assumption | trivial) ?_
              rotate_left
              · (intro w hSw; (try dsimp only at hSw); go_simp) <;> (with_reducible rfl)
              simp only [List.setIfInBounds_toArray, List.set_cons_zero, List.set_cons_succ]
              refine wpAnyT_take2 (i := 12) (v := ?_) rfl rfl (by kernel_rfl) (by kernel_rfl) (by kernel_rfl) (by kernel_rfl) (fun _ _ _ h => h) (Or.inl ⟨by rfl, ?_⟩) (by first | assumption | trivial) ?_
              rotate_left
              · (intro w hSw; (try dsimp only at hSw); go_simp) <;> (with_reducible rfl)
              simp only [List.setIfInBounds_toArray, List.set_cons_zero, List.set_cons_succ]
              refine wpAnyT_take2 (i := 13) (v := ?_) rfl rfl (by kernel_rfl) (by kernel_rfl) (by kernel_rfl) (by kernel_rfl) (fun _ _ _ h => h) (Or.inl ⟨by rfl, ?_⟩) (by first | assumption | trivial) ?_
              rotate_left
              · (intro w hSw; (try dsimp only at hSw); go_simp) <;> (with_reducible rfl)
              simp only [List.setIfInBounds_toArray, List.set_cons_zero, List.set_cons_succ]
              refine wpAnyT_take2 (i := 14) (v := ?_) rfl rfl (by kernel_rfl) (by kernel_rfl) (by kernel_rfl) (by kernel_rfl) (fun _ _ _ h => h) (Or.inl ⟨by rfl, ?_⟩) (by first | assumption | trivial) ?_
              rotate_left
              · (intro w hSw; (try dsimp only at hSw); go_simp) <;> (with_reducible rfl)
              simp only [List.setIfInBounds_toArray, List.set_cons_zero, List.set_cons_succ]
              refine wpAnyT_take2 (i := 15) (v := ?_) rfl rfl (by kernel_rfl) (by kernel_rfl) (by kernel_rfl) (by kernel_rfl) (fun _ _ _ h => h) (Or.inl ⟨by rfl, ?_⟩) (by first | assumption | trivial) ?_
              rotate_left
              · (intro w hSw; (try dsimp only at hSw); go_simp) <;> (with_reducible rfl)
              simp only [List.setIfInBounds_toArray, List.set_cons_zero, List.set_cons_succ]
              refine wpAnyT_take2 (i := 16) (v := ?_) rfl rfl (by kernel_rfl) (by kernel_rfl) (by kernel_rfl) (by kernel_rfl) (fun _ _ _ h => h) (Or.inl ⟨by rfl, ?_⟩) (by first | assumption | trivial) ?_
              rotate_left
              · (intro w hSw; (try dsimp only at hSw); go_simp) <;> (with_reducible rfl)
              simp only [List.setIfInBounds_toArray, List.set_cons_zero, List.set_cons_succ]
              refine wpAnyT_take2 (i := 17) (v := ?_) rfl rfl (by kernel_rfl) (by kernel_rfl) (by kernel_rfl) (by kernel_rfl) (fun _ _ _ h => h) (Or.inl ⟨by rfl, ?_⟩) (by first | assumption | trivial) ?_
              rotate_left
              · (intro w hSw; (try dsimp only at hSw); go_simp) <;> (with_reducible rfl)
              simp only [List.setIfInBounds_toArray, List.set_cons_zero, List.set_cons_succ]
              refine wpAnyT_take2 (i := 18) (v := ?_) rfl rfl (by kernel_rfl) (by kernel_rfl) (by kernel_rfl) (by kernel_rfl) (fun _ _ _ h => h) (Or.inl ⟨by rfl, ?_⟩) (by first | assumption | trivial) ?_
              rotate_left
              · (intro w hSw; (try dsimp only at hSw); go_simp) <;> (with_reducible rfl)
              simp only [List.setIfInBounds_toArray, List.set_cons_zero, List.set_cons_succ]
              refine wpAnyT_take2 (i := 19) (v := .bool false) rfl rfl (by kernel_rfl) (by kernel_rfl) (by kernel_rfl) (by kernel_rfl) (fun _ _ _ h => h) (Or.inl ⟨by rfl, ?_⟩) (by first | assumption | trivial) ?_
              · (intro w hSw; (try dsimp only at hSw); go_simp) <;> (first | (with_reducible rfl) | assumption | (simp; done) | (simp [*]; done) | (simp; omega))
              simp only [List.setIfInBounds_toArray, List.set_cons_zero, List.set_cons_succ]
              refine wpAnyT_take2 (i := 20) (v := ?_) rfl rfl (by kernel_rfl) (by kernel_rfl) (by kernel_rfl) (by kernel_rfl) (fun _ _ _ h => h) (Or.inl ⟨by rfl, ?_⟩) (by first | assumption | trivial) ?_
              rotate_left
              · (intro w hSw; (try dsimp only at hSw); go_simp) <;> (with_reducible rfl)
              simp only [List.setIfInBounds_toArray, List.set_cons_zero, List.set_cons_succ]
              refine wpAnyT_take2 (i := 21) (v := undef) rfl rfl (by kernel_rfl) (by kernel_rfl) (by kernel_rfl) (by kernel_rfl) (fun _ _ _ h => h) (Or.inr ⟨by rfl, rfl⟩) (by first | assumption | trivial) ?_
              simp only [List.setIfInBounds_toArray, List.set_cons_zero, List.set_cons_succ]
              refine wpAnyT_take2 (i := 22) (v := undef) rfl rfl (by kernel_rfl) (by kernel_rfl) (by kernel_rfl) (by kernel_rfl) (fun _ _ _ h => h) (Or.inr ⟨by rfl, rfl⟩) (by first | assumption | trivial) ?_
              simp only [List.setIfInBounds_toArray, List.set_cons_zero, List.set_cons_succ]
              refine wpAnyT_take2 (i := 23) (v := undef) rfl rfl (by kernel_rfl) (by kernel_rfl) (by kernel_rfl) (by kernel_rfl) (fun _ _ _ h => h) (Or.inr ⟨by rfl, rfl⟩) (by first | assumption | trivial) ?_
              simp only [List.setIfInBounds_toArray, List.set_cons_zero, List.set_cons_succ]
              refine wpAnyT_take2 (i := 24) (v := undef) rfl rfl (by kernel_rfl) (by kernel_rfl) (by kernel_rfl) (by kernel_rfl) (fun _ _ _ h => h) (Or.inr ⟨by rfl, rfl⟩) (by first | assumption | trivial) ?_
              simp only [List.setIfInBounds_toArray, List.set_cons_zero, List.set_cons_succ]
              refine wpAnyT_take2 (i := 25) (v := undef) rfl rfl (by kernel_rfl) (by kernel_rfl) (by kernel_rfl) (by kernel_rfl) (fun _ _ _ h => h) (Or.inr ⟨by rfl, rfl⟩) (by first | assumption | trivial) ?_
              simp only [List.setIfInBounds_toArray, List.set_cons_zero, List.set_cons_succ]
              refine wpAnyT_take2 (i := 26) (v := undef) rfl rfl (by kernel_rfl) (by kernel_rfl) (by kernel_rfl) (by kernel_rfl) (fun _ _ _ h => h) (Or.inr ⟨by rfl, rfl⟩) (by first | assumption | trivial) ?_
              simp only [List.setIfInBounds_toArray, List.set_cons_zero, List.set_cons_succ]
              refine wpAnyT_take2 (i := 27) (v := undef) rfl rfl (by kernel_rfl) (by kernel_rfl) (by kernel_rfl) (by kernel_rfl) (fun _ _ _ h => h) (Or.inr ⟨by rfl, rfl⟩) (by first | assumption | trivial) ?_
              simp only [List.setIfInBounds_toArray, List.set_cons_zero, List.set_cons_succ]
              refine wpAnyT_take2 (i := 28) (v := undef) rfl rfl (by kernel_rfl) (by kernel_rfl) (by kernel_rfl) (by kernel_rfl) (fun _ _ _ h => h) (Or.inr ⟨by rfl, rfl⟩) (by first | assumption | trivial) ?_
              simp only [List.setIfInBounds_toArray, List.set_cons_zero, List.set_cons_succ]
              refine wpAnyT_take2 (i := 29) (v := ?_) rfl rfl (by kernel_rfl) (by kernel_rfl) (by kernel_rfl) (by kernel_rfl) (fun _ _ _ h => h) (Or.inl ⟨by rfl, ?_⟩) (by first | assumption | trivial) ?_
              rotate_left
              · (intro w hSw; (try dsimp only at hSw); go_simp) <;> (with_reducible rfl)
              simp only [List.setIfInBounds_toArray, List.set_cons_zero, List.set_cons_succ]
              refine wpAnyT_take2 (i := 30) (v := ?_) rfl rfl (by kernel_rfl) (by kernel_rfl) (by kernel_rfl) (by kernel_rfl) (fun _ _ _ h => h) (Or.inl ⟨by rfl, ?_⟩) (by first | assumption | trivial) ?_
              rotate_left
              · (intro w hSw; (try dsimp only at hSw); go_simp) <;> (with_reducible rfl)
              simp only [List.setIfInBounds_toArray, List.set_cons_zero, List.set_cons_succ]
              refine wpAnyT_take2 (i := 31) (v := ?_) rfl rfl (by kernel_rfl) (by kernel_rfl) (by kernel_rfl) (by kernel_rfl) (fun _ _ _ h => h) (Or.inl ⟨by rfl, ?_⟩) (by first | assumption | trivial) ?_
              rotate_left
              · (intro w hSw; (try dsimp only at hSw); go_simp) <;> (with_reducible rfl)
              simp only [List.setIfInBounds_toArray, List.set_cons_zero, List.set_cons_succ]
              refine wpAnyT_take2 (i := 32) (v := ?_) rfl rfl (by kernel_rfl) (by kernel_rfl) (by kernel_rfl) (by kernel_rfl) (fun _ _ _ h => h) (Or.inl ⟨by rfl, ?_⟩) (by first | assumption | trivial) ?_
              rotate_left
              · (intro w hSw; (try dsimp only at hSw); go_simp) <;> (with_reducible rfl)
              simp only [List.setIfInBounds_toArray, List.set_cons_zero, List.set_cons_succ]
              refine wpAnyT_take2 (i := 33) (v := ?_) rfl rfl (by kernel_rfl) (by kernel_rfl) (by kernel_rfl) (by kernel_rfl) (fun _ _ _ h => h) (Or.inl ⟨by rfl, ?_⟩) (by first | assumption | trivial) ?_
              rotate_left
              · (intro w hSw; (try dsimp only at hSw); go_simp) <;> (with_reducible rfl)
              simp only [List.setIfInBounds_toArray, List.set_cons_zero, List.set_cons_succ]
              refine wpAnyT_take2 (i := 34) (v := ?_) rfl rfl (by kernel_rfl) (by kernel_rfl) (by kernel_rfl) (by kernel_rfl) (fun _ _ _ h => h) (Or.inl ⟨by rfl, ?_⟩) (by first | assumption | trivial) ?_
              rotate_left
              · (intro w hSw; (try dsimp only at hSw); go_simp) <;> (with_reducible rfl)
              simp only [List.setIfInBounds_toArray, List.set_cons_zero, List.set_cons_succ]
              refine wpAnyT_take2 (i := 35) (v := ?_) rfl rfl (by kernel_rfl) (by kernel_rfl) (by kernel_rfl) (by kernel_rfl) (fun _ _ _ h => h) (Or.inl ⟨by rfl, ?_⟩) (by first | assumption | trivial) ?_
              rotate_left
              · (intro w hSw; (try dsimp only at hSw); go_simp) <;> (with_reducible rfl)
              simp only [List.setIfInBounds_toArray, List.set_cons_zero, List.set_cons_succ]
              refine wpAnyT_take2 (i := 36) (v := ?_) rfl rfl (by kernel_rfl) (by kernel_rfl) (by kernel_rfl) (by kernel_rfl) (fun _ _ _ h => h) (Or.inl ⟨by rfl, ?_⟩) (by first | assumption | trivial) ?_
              rotate_left
              · (intro w hSw; (try dsimp only at hSw); go_simp) <;> (with_reducible rfl)
              simp only [List.setIfInBounds_toArray, List.set_cons_zero, List.set_cons_succ]
              refine wpAnyT_take2 (i := 37) (v := ?_) rfl rfl (by kernel_rfl) (by kernel_rfl) (by kernel_rfl) (by kernel_rfl) (fun _ _ _ h => h) (Or.inl ⟨by rfl, ?_⟩) (by first | assumption | trivial) ?_
              rotate_left
              · (intro w hSw; (try dsimp only at hSw); go_simp) <;> (with_reducible rfl)
              simp only [List.setIfInBounds_toArray, List.set_cons_zero, List.set_cons_succ]
              clear hHeld
              refine wpAnyT_next (i := 38) (by kernel_rfl) rfl ?_
              go_wp2_with fail
              refine (lhas ⟨sA, sc, sl⟩ ⟨yd, yq, ⟨yA, yc, yl⟩, yt, yx⟩ _ (HS.out.later (by repeat (first | (with_reducible exact hB14) | (with_reducible exact Below.refl _ _) | ((with_reducible refine below_setr ?_ ?_); focus (first | (simp; done) | (simp; omega) | omega)) | ((with_reducible refine below_allocr ?_ ?_); focus (first | (simp; done) | (simp; omega) | omega)) | (with_reducible refine Below.drew ?_) | (with_reducible refine below_drewN ?_ _) | ((with_reducible apply below_via); focus (with_reducible assumption)))) (Nat.le_refl _)) (HYA.out.below' (by repeat (first | (with_reducible exact hbo) | (with_reducible exact Below.refl _ _) | ((with_reducible refine below_setr ?_ ?_); focus (first | (simp; done) | (simp; omega) | omega)) | ((with_reducible refine below_allocr ?_ ?_); focus (first | (simp; done) | (simp; omega) | omega)) | (with_reducible refine Below.drew ?_) | (with_reducible refine below_drewN ?_ _) | ((with_reducible apply below_via); focus (with_reducible assumption)))) (Nat.le_refl _))).mono ?_
              rintro e w16 ⟨rfl, hb16⟩
              have hBr : Below wr.heap.size wr w16 := (by repeat (first | (with_reducible exact Below.refl _ _) | ((with_reducible refine below_setr ?_ ?_); focus (first | (simp; done) | (simp; omega) | omega)) | ((with_reducible refine below_allocr ?_ ?_); focus (first | (simp; done) | (simp; omega) | omega)) | (with_reducible refine Below.drew ?_) | (with_reducible refine below_drewN ?_ _) | ((with_reducible apply below_via); focus (with_reducible assumption))))
              have hB16 : Below w.heap.size w w16 := hB14.trans (hBr.mono hz14)
              have hbo16 : Below wz.heap.size wz w16 := hbo.trans (hBr.mono hzz)
              have G0 := keep_cell hb16 (show (World.drew _).cell? ⟨b, ox + m * 5, none⟩ = _ from q0)
              have G1 := keep_cell hb16 (show (World.drew _).cell? ⟨b, ox + m * 5 + 1, none⟩ = _ from q1)
              have G2 := keep_cell hb16 (show (World.drew _).cell? ⟨b, ox + m * 5 + 2, none⟩ = _ from q2)
              have G3 := keep_cell hb16 (show (World.drew _).cell? ⟨b, ox + m * 5 + 3, none⟩ = _ from q3)
              have G4 := keep_cell hb16 (show (World.drew _).cell? ⟨b, ox + m * 5 + 4, none⟩ = _ from q4)
              have J0 := keep_cell hb16 (show (World.drew _).cell? ⟨wr.heap.size, 0, none⟩ = _ from j0)
              have J1 := keep_cell hb16 (show (World.drew _).cell? ⟨wr.heap.size, 1, none⟩ = _ from j1)
              have J2 := keep_cell hb16 (show (World.drew _).cell? ⟨wr.heap.size, 2, none⟩ = _ from j2)
              have J3 := keep_cell hb16 (show (World.drew _).cell? ⟨wr.heap.size, 3, none⟩ = _ from j3)
              have J4 := keep_cell hb16 (show (World.drew _).cell? ⟨wr.heap.size, 4, none⟩ = _ from j4)
              clear hb16 q0 q1 q2 q3 q4 j0 j1 j2 j3 j4
              have htwo := fun h => hasN_two HGD.out (x := Note.d ⟨yd, yq, ⟨yA, yc, yl⟩, yt, yx⟩) (List.mem_map_of_mem (f := Note.d) HY.out) h
              simp only
              generalize hasN (sl.map Note.d) (Note.d ⟨yd, yq, ⟨yA, yc, yl⟩, yt, yx⟩) = va at *
              rcases va with _ | _
              · have HTW := Lib.hid (htwo rfl)
                clear htwo
                go_wp2_with fail
                have hHeld := And.intro (And.intro G0 (And.intro G1 (And.intro G2 (And.intro G3 G4)))) (And.intro J0 (And.intro J1 (And.intro J2 (And.intro J3 J4))))
                refine ⟨(by first | exact hHeld | exact fun _ => hHeld), ?_⟩
                refine wpAnyT_take2 (i := 39) (v := ?_) rfl rfl (by kernel_rfl) (by kernel_rfl) (by kernel_rfl) (by kernel_rfl) (fun _ _ _ h => h) (Or.inl ⟨by rfl, ?_⟩) (by first | assumption | trivial) ?_
                rotate_left
                · (intro w hSw; (try dsimp only at hSw); go_simp) <;> (with_reducible rfl)
                simp only [List.setIfInBounds_toArray, List.set_cons_zero, List.set_cons_succ]
                refine wpAnyT_take2 (i := 40) (v := ?_) rfl rfl (by kernel_rfl) (by kernel_rfl) (by kernel_rfl) (by kernel_rfl) (fun _ _ _ h => h) (Or.inl ⟨by rfl, ?_⟩) (by first | assumption | trivial) ?_
                rotate_left
                · (intro w hSw; (try dsimp only at hSw); go_simp) <;> (with_reducible rfl)
                simp only [List.setIfInBounds_toArray, List.set_cons_zero, List.set_cons_succ]
                refine wpAnyT_take2 (i := 41) (v := ?_) rfl rfl (by kernel_rfl) (by kernel_rfl) (by kernel_rfl) (by kernel_rfl) (fun _ _ _ h => h) (Or.inl ⟨by rfl, ?_⟩) (by first | assumption | trivial) ?_
                rotate_left
                · (intro w hSw; (try dsimp only at hSw); go_simp) <;> (with_reducible rfl)
                simp only [List.setIfInBounds_toArray, List.set_cons_zero, List.set_cons_succ]
                refine wpAnyT_take2 (i := 42) (v := ?_) rfl rfl (by kernel_rfl) (by kernel_rfl) (by kernel_rfl) (by kernel_rfl) (fun _ _ _ h => h) (Or.inl ⟨by rfl, ?_⟩) (by first | assumption | trivial) ?_
                rotate_left
                · (intro w hSw; (try dsimp only at hSw); go_simp) <;> (with_reducible rfl)
                simp only [List.setIfInBounds_toArray, List.set_cons_zero, List.set_cons_succ]
                refine wpAnyT_take2 (i := 43) (v := ?_) rfl rfl (by kernel_rfl) (by kernel_rfl) (by kernel_rfl) (by kernel_rfl) (fun _ _ _ h => h) (Or.inl ⟨by rfl, ?_⟩) (by first | assumption | trivial) ?_
                rotate_left
                · (intro w hSw; (try dsimp only at hSw); go_simp) <;> (with_reducible rfl)
                simp only [List.setIfInBounds_toArray, List.set_cons_zero, List.set_cons_succ]
                refine wpAnyT_take2 (i := 44) (v := ?_) rfl rfl (by kernel_rfl) (by kernel_rfl) (by kernel_rfl) (by kernel_rfl) (fun _ _ _ h => h) (Or.inl ⟨by rfl, ?_⟩) (by first | assumption | trivial) ?_
                rotate_left
                · (intro w hSw; (try dsimp only at hSw); go_simp) <;> (with_reducible rfl)
                simp only [List.setIfInBounds_toArray, List.set_cons_zero, List.set_cons_succ]
                refine wpAnyT_take2 (i := 45) (v := ?_) rfl rfl (by kernel_rfl) (by kernel_rfl) (by kernel_rfl) (by kernel_rfl) (fun _ _ _ h => h) (Or.inl ⟨by rfl, ?_⟩) (by first | assumption | trivial) ?_
                rotate_left
                · (intro w hSw; (try dsimp only at hSw); go_simp) <;> (with_reducible rfl)
                simp only [List.setIfInBounds_toArray, List.set_cons_zero, List.set_cons_succ]
                clear hHeld
                refine wpAnyT_next (i := 46) (by kernel_rfl) rfl ?_
                go_wp2_with fail
                have c17 := lhas ⟨tA, tc, tl⟩ ⟨yd, yq, ⟨yA, yc, yl⟩, yt, yx⟩ w16 (HT.out.later hB16 (Nat.le_refl _)) (HYA.out.below' hBr (Nat.le_refl _))
                simp only [HTW.out] at c17
                refine c17.mono ?_
                rintro e w17 ⟨rfl, hb17⟩
                have hBr17 : Below w16.heap.size w16 w17 := (by repeat (first | (with_reducible exact Below.refl _ _) | ((with_reducible refine below_setr ?_ ?_); focus (first | (simp; done) | (simp; omega) | omega)) | ((with_reducible refine below_allocr ?_ ?_); focus (first | (simp; done) | (simp; omega) | omega)) | (with_reducible refine Below.drew ?_) | (with_reducible refine below_drewN ?_ _) | ((with_reducible apply below_via); focus (with_reducible assumption))))
                have hbo17 : Below wz.heap.size wz w17 := hbo16.trans (hBr17.mono hbo16.size)
                have K0 := keep_cell hb17 (show (World.drew _).cell? ⟨b, ox + m * 5, none⟩ = _ from G0)
                have K1 := keep_cell hb17 (show (World.drew _).cell? ⟨b, ox + m * 5 + 1, none⟩ = _ from G1)
                have K2 := keep_cell hb17 (show (World.drew _).cell? ⟨b, ox + m * 5 + 2, none⟩ = _ from G2)
                have K3 := keep_cell hb17 (show (World.drew _).cell? ⟨b, ox + m * 5 + 3, none⟩ = _ from G3)
                have K4 := keep_cell hb17 (show (World.drew _).cell? ⟨b, ox + m * 5 + 4, none⟩ = _ from G4)
                have L0 := keep_cell hb17 (show (World.drew _).cell? ⟨wr.heap.size, 0, none⟩ = _ from J0)
                have L1 := keep_cell hb17 (show (World.drew _).cell? ⟨wr.heap.size, 1, none⟩ = _ from J1)
                have L2 := keep_cell hb17 (show (World.drew _).cell? ⟨wr.heap.size, 2, none⟩ = _ from J2)
                have L3 := keep_cell hb17 (show (World.drew _).cell? ⟨wr.heap.size, 3, none⟩ = _ from J3)
                have L4 := keep_cell hb17 (show (World.drew _).cell? ⟨wr.heap.size, 4, none⟩ = _ from J4)
                clear hb17 G0 G1 G2 G3 G4 J0 J1 J2 J3 J4 c17
                go_wp2_with fail
                have hHeld := And.intro (And.intro K0 (And.intro K1 (And.intro K2 (And.intro K3 K4)))) (And.intro L0 (And.intro L1 (And.intro L2 (And.intro L3 L4))))
                refine ⟨(by first | exact hHeld | exact fun _ => hHeld), ?_⟩
                refine wpAnyT_take2 (i := 47) (v := ?_) rfl rfl (by kernel_rfl) (by kernel_rfl) (by kernel_rfl) (by kernel_rfl) (fun _ _ _ h => h) (Or.inl ⟨by rfl, ?_⟩) (by first | assumption | trivial) ?_
                rotate_left
                · (intro w hSw; (try dsimp only at hSw); go_simp) <;> (with_reducible rfl)
                simp only [List.setIfInBounds_toArray, List.set_cons_zero, List.set_cons_succ]
                refine wpAnyT_take2 (i := 48) (v := ?_) rfl rfl (by kernel_rfl) (by kernel_rfl) (by kernel_rfl) (by kernel_rfl) (fun _ _ _ h => h) (Or.inl ⟨by rfl, ?_⟩) (by first | assumption | trivial) ?_
                rotate_left
                · (intro w hSw; (try dsimp only at hSw); go_simp) <;> (with_reducible rfl)
                simp only [List.setIfInBounds_toArray, List.set_cons_zero, List.set_cons_succ]
                refine wpAnyT_take2 (i := 49) (v := ?_) rfl rfl (by kernel_rfl) (by kernel_rfl) (by kernel_rfl) (by kernel_rfl) (fun _ _ _ h => h) (Or.inl ⟨by rfl, ?_⟩) (by first | assumption | trivial) ?_
                rotate_left
                · (intro w hSw; (try dsimp only at hSw); go_simp) <;> (with_reducible rfl)
                simp only [List.setIfInBounds_toArray, List.set_cons_zero, List.set_cons_succ]
                refine wpAnyT_done (by kernel_rfl) ?_ _
                clear hHeld K0 K1 K2 K3 K4 L0 L1 L2 L3 L4
                go_wp2_with fail
                go_roundw
                case rel => exact ⟨m + 1, by omega, by go_num, hbo17⟩
                case measure => simp [intOf]; omega
              · clear htwo
                go_wp2_with fail
                have hHeld := And.intro (And.intro G0 (And.intro G1 (And.intro G2 (And.intro G3 G4)))) (And.intro J0 (And.intro J1 (And.intro J2 (And.intro J3 J4))))
                refine ⟨(by first | exact hHeld | exact fun _ => hHeld), ?_⟩
                refine wpAnyT_take2 (i := 39) (v := ?_) rfl rfl (by kernel_rfl) (by kernel_rfl) (by kernel_rfl) (by kernel_rfl) (fun _ _ _ h => h) (Or.inl ⟨by rfl, ?_⟩) (by first | assumption | trivial) ?_
                rotate_left
                · (intro w hSw; (try dsimp only at hSw); go_simp) <;> (with_reducible rfl)
                simp only [List.setIfInBounds_toArray, List.set_cons_zero, List.set_cons_succ]
                refine wpAnyT_take2 (i := 40) (v := ?_) rfl rfl (by kernel_rfl) (by kernel_rfl) (by kernel_rfl) (by kernel_rfl) (fun _ _ _ h => h) (Or.inl ⟨by rfl, ?_⟩) (by first | assumption | trivial) ?_
                rotate_left
                · (intro w hSw; (try dsimp only at hSw); go_simp) <;> (with_reducible rfl)
                simp only [List.setIfInBounds_toArray, List.set_cons_zero, List.set_cons_succ]
                refine wpAnyT_take2 (i := 41) (v := undef) rfl rfl (by kernel_rfl) (by kernel_rfl) (by kernel_rfl) (by kernel_rfl) (fun _ _ _ h => h) (Or.inr ⟨by rfl, rfl⟩) (by first | assumption | trivial) ?_
                simp only [List.setIfInBounds_toArray, List.set_cons_zero, List.set_cons_succ]
                refine wpAnyT_take2 (i := 42) (v := undef) rfl rfl (by kernel_rfl) (by kernel_rfl) (by kernel_rfl) (by kernel_rfl) (fun _ _ _ h => h) (Or.inr ⟨by rfl, rfl⟩) (by first | assumption | trivial) ?_
                simp only [List.setIfInBounds_toArray, List.set_cons_zero, List.set_cons_succ]
                refine wpAnyT_take2 (i := 43) (v := undef) rfl rfl (by kernel_rfl) (by kernel_rfl) (by kernel_rfl) (by kernel_rfl) (fun _ _ _ h => h) (Or.inr ⟨by rfl, rfl⟩) (by first | assumption | trivial) ?_
                simp only [List.setIfInBounds_toArray, List.set_cons_zero, List.set_cons_succ]
                refine wpAnyT_take2 (i := 44) (v := undef) rfl rfl (by kernel_rfl) (by kernel_rfl) (by kernel_rfl) (by kernel_rfl) (fun _ _ _ h => h) (Or.inr ⟨by rfl, rfl⟩) (by first | assumption | trivial) ?_
                simp only [List.setIfInBounds_toArray, List.set_cons_zero, List.set_cons_succ]
                refine wpAnyT_take2 (i := 45) (v := undef) rfl rfl (by kernel_rfl) (by kernel_rfl) (by kernel_rfl) (by kernel_rfl) (fun _ _ _ h => h) (Or.inr ⟨by rfl, rfl⟩) (by first | assumption | trivial) ?_
                simp only [List.setIfInBounds_toArray, List.set_cons_zero, List.set_cons_succ]
                refine wpAnyT_take2 (i := 46) (v := undef) rfl rfl (by kernel_rfl) (by kernel_rfl) (by kernel_rfl) (by kernel_rfl) (fun _ _ _ h => h) (Or.inr ⟨by rfl, rfl⟩) (by first | assumption | trivial) ?_
                simp only [List.setIfInBounds_toArray, List.set_cons_zero, List.set_cons_succ]
                refine wpAnyT_take2 (i := 47) (v := undef) rfl rfl (by kernel_rfl) (by kernel_rfl) (by kernel_rfl) (by kernel_rfl) (fun _ _ _ h => h) (Or.inr ⟨by rfl, rfl⟩) (by first | assumption | trivial) ?_
                simp only [List.setIfInBounds_toArray, List.set_cons_zero, List.set_cons_succ]
                refine wpAnyT_take2 (i := 48) (v := ?_) rfl rfl (by kernel_rfl) (by kernel_rfl) (by kernel_rfl) (by kernel_rfl) (fun _ _ _ h => h) (Or.inl ⟨by rfl, ?_⟩) (by first | assumption | trivial) ?_
                rotate_left
                · (intro w hSw; (try dsimp only at hSw); go_simp) <;> (with_reducible rfl)
                simp only [List.setIfInBounds_toArray, List.set_cons_zero, List.set_cons_succ]
                refine wpAnyT_take2 (i := 49) (v := ?_) rfl rfl (by kernel_rfl) (by kernel_rfl) (by kernel_rfl) (by kernel_rfl) (fun _ _ _ h => h) (Or.inl ⟨by rfl, ?_⟩) (by first | assumption | trivial) ?_
                rotate_left
                · (intro w hSw; (try dsimp only at hSw); go_simp) <;> (with_reducible rfl)
                simp only [List.setIfInBounds_toArray, List.set_cons_zero, List.set_cons_succ]
                refine wpAnyT_done (by kernel_rfl) ?_ _
                clear hHeld G0 G1 G2 G3 G4 J0 J1 J2 J3 J4
                go_wp2_with fail
                go_roundw
                case rel => exact ⟨m + 1, by omega, by go_num, hbo16⟩
                case measure => simp [intOf]; omega
        · have hB14 : Below w.heap.size w wr := HBZ.out.trans (hbo.mono HBZ.out.size)
          have HM2 := Lib.hid (HMZ.out.later hbo (Nat.le_refl _))
          have hzz : w.heap.size ≤ wr.heap.size := hB14.size
          have HB2 := Lib.hid hB14
          clear HMZ HBZ
          go_wp2_with fail
          obtain ⟨wy, hwy⟩ : ∃ x, x = wr := ⟨_, rfl⟩
          subst hwy
          clear hbo hB14 hml hm
          go_loopw [22] (fun n wr => ∃ (k : Nat), k ≤ sl.length ∧ n = .int .i64 k ∧ Below wy.heap.size wy wr) (fun n _ => sl.length - (intOf n).toNat)
          case atStart => exact ⟨0, by omega, rfl, Below.refl _ _⟩
          case round =>
            obtain ⟨k, hk, rfl, hbo⟩ := hrel
            have hB14 : Below w.heap.size w wr := HB2.out.trans (hbo.mono HB2.out.size)
            have hz14 : w.heap.size ≤ wr.heap.size := hB14.size
            have hzz : wy.heap.size ≤ wr.heap.size := hbo.size
            by_cases hkl : k < sl.length
            · have hkl' : (k : Int) < (sl.length : Int) := by omega
              obtain ⟨b, ox, hSA, hb, hcl⟩ := HS.out.1.at1 hkl
              simp only at hSA
              subst hSA
              obtain ⟨g0, g1, g2, g3, g4⟩ := Cells.c5 (hcl.keep (hB14.block b hb))
              have hya := (HS.out.2 _ (List.getElem_mem hkl)).below' hB14 (Nat.le_refl _)
              have hha := hasN_cover HGD.out.ca (List.mem_map_of_mem (f := Note.d) (List.getElem_mem hkl))
              clear hcl
              generalize sl[k] = y at *
              obtain ⟨yd, yq, ⟨yA, yc, yl⟩, yt, yx⟩ := y
              have HYA := Lib.hid hya
              clear hya
              have c18 := lhas ⟨mA, mc, ml⟩ ⟨yd, yq, ⟨yA, yc, yl⟩, yt, yx⟩ wr (HM2.out.later hbo (Nat.le_refl _)) HYA.out
              simp only [hha] at c18
              clear hha
              go_wp2_with fail
              refine c18.mono ?_
              rintro e w18 ⟨rfl, hb18⟩
              have hbo18 : Below wy.heap.size wy w18 := hbo.trans (hb18.mono hbo.size)
              clear hb18 c18
              go_wp2_with fail
              go_roundw
              case rel => exact ⟨k + 1, by omega, by go_num, hbo18⟩
              case measure => simp [intOf]; omega
            have HM3 := Lib.hid (HM2.out.later hbo (Nat.le_refl _))
            have HB3 := Lib.hid hB14
            clear HM2 HB2
            go_wp2_with fail
            obtain ⟨wx, hwx⟩ : ∃ x, x = wr := ⟨_, rfl⟩
            subst hwx
            clear hbo hB14 hkl hk
            go_loopw [23] (fun n wr => ∃ (k : Nat), k ≤ tl.length ∧ n = .int .i64 k ∧ Below wx.heap.size wx wr) (fun n _ => tl.length - (intOf n).toNat)
            case atStart => exact ⟨0, by omega, rfl, Below.refl _ _⟩
            case round =>
              obtain ⟨k, hk, rfl, hbo⟩ := hrel
              have hB14 : Below w.heap.size w wr := HB3.out.trans (hbo.mono HB3.out.size)
              have hz14 : w.heap.size ≤ wr.heap.size := hB14.size
              have hzz : wx.heap.size ≤ wr.heap.size := hbo.size
              by_cases hkl : k < tl.length
              · have hkl' : (k : Int) < (tl.length : Int) := by omega
                obtain ⟨b, ox, hSA, hb, hcl⟩ := HT.out.1.at1 hkl
                simp only at hSA
                subst hSA
                obtain ⟨g0, g1, g2, g3, g4⟩ := Cells.c5 (hcl.keep (hB14.block b hb))
                have hya := (HT.out.2 _ (List.getElem_mem hkl)).below' hB14 (Nat.le_refl _)
                have hha := hasN_cover HGD.out.cb (List.mem_map_of_mem (f := Note.d) (List.getElem_mem hkl))
                clear hcl
                generalize tl[k] = y at *
                obtain ⟨yd, yq, ⟨yA, yc, yl⟩, yt, yx⟩ := y
                have HYA := Lib.hid hya
                clear hya
                have c18 := lhas ⟨mA, mc, ml⟩ ⟨yd, yq, ⟨yA, yc, yl⟩, yt, yx⟩ wr (HM3.out.later hbo (Nat.le_refl _)) HYA.out
                simp only [hha] at c18
                clear hha
                go_wp2_with fail
                refine c18.mono ?_
                rintro e w18 ⟨rfl, hb18⟩
                have hbo18 : Below wx.heap.size wx w18 := hbo.trans (hb18.mono hbo.size)
                clear hb18 c18
                go_wp2_with fail
                go_roundw
                case rel => exact ⟨k + 1, by omega, by go_num, hbo18⟩
                case measure => simp [intOf]; omega
              go_wp2_with fail
              go_ret
              exact ⟨rfl, hB14⟩
  · have hne := hno hE
    generalize (mergeN (sl.map Note.d) (tl.map Note.d)).2 = E at *
    have hm0 : ml = [] := by have := HML.out; rw [hne.1] at this; simpa using this
    have e1 : (E != 0) = true := by simp [hE]
    have e2 := hne.2
    clear hne hno hcm hE HML
    subst hm0
    go_wp2_with fail
    refine hlist.mono ?_
    rintro e w7 ⟨rfl, hb7⟩
    have hB7 : Below w.heap.size w w7 := (by repeat (first | (with_reducible exact hB6) | (with_reducible exact Below.refl _ _) | ((with_reducible refine below_setr ?_ ?_); focus (first | (simp; done) | (simp; omega) | omega)) | ((with_reducible refine below_allocr ?_ ?_); focus (first | (simp; done) | (simp; omega) | omega)) | (with_reducible refine Below.drew ?_) | (with_reducible refine below_drewN ?_ _) | ((with_reducible apply below_via); focus (with_reducible assumption))))
    clear hlist hb7 hlm
    rcases e2 with rfl | rfl
    · go_wp2_with fail
      go_ret
      exact ⟨by simp [Act.eval, go_sem], (by repeat (first | (with_reducible exact hB7) | (with_reducible exact Below.refl _ _) | ((with_reducible refine below_setr ?_ ?_); focus (first | (simp; done) | (simp; omega) | omega)) | ((with_reducible refine below_allocr ?_ ?_); focus (first | (simp; done) | (simp; omega) | omega)) | (with_reducible refine Below.drew ?_) | (with_reducible refine below_drewN ?_ _) | ((with_reducible apply below_via); focus (with_reducible assumption))))⟩
    · go_wp2_with fail
      go_ret
      exact ⟨by simp [Act.eval, go_sem], (by repeat (first | (with_reducible exact hB7) | (with_reducible exact Below.refl _ _) | ((with_reducible refine below_setr ?_ ?_); focus (first | (simp; done) | (simp; omega) | omega)) | ((with_reducible refine below_allocr ?_ ?_); focus (first | (simp; done) | (simp; omega) | omega)) | (with_reducible refine Below.drew ?_) | (with_reducible refine below_drewN ?_ _) | ((with_reducible apply below_via); focus (with_reducible assumption))))⟩
end Go.Proofs.Ythnblhbdfpmolaa
