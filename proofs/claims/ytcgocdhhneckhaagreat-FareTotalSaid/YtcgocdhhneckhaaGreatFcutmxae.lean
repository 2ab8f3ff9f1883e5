/- Slices of digits in memory: reading, prefixes, rows of the call's own; small lemmas for the walks. -/
import Derived.Test.YtcgocdhhneckhaaGreatFcutmxad
namespace Go.Proofs.YtcgocdhhneckhaaGreat
open Go.RowKit
def ienc (n : Int) : List Value := [.int .i64 n]
theorem ienc_k (n : Int) : (ienc n).length = 1 := rfl
theorem below_via {a w w' : World} (hb : Below a.heap.size a w') (h1 : Below w.heap.size w a) : Below w.heap.size w w' := Below.trans h1 (hb.mono h1.size)
theorem own_via {α : Type} {base : Nat} {e : TypeId} {k : Nat} {enc : α → List Value} {a w' : World} {s : Sl α} (hb : Below a.heap.size a w') (h : Own base e k enc a s) : Own base e k enc w' s := h.below hb
theorem keep_cell {a w' : World} {p : Addr} {v : Value} (hb : Below a.heap.size a w') (h : a.cell? p = some v) : w'.cell? p = some v := (hb.cell (World.block_lt_of_cell? a p h)).trans h
theorem kal {w : World} {p : Addr} {v : Value} (o : Obj) (h : w.cell? p = some v) : (w.alloc o).cell? p = some v := by rw [World.cell?_alloc_some w p o (by rw [h]; rfl), h]
theorem cutT {G : Prop} (T : Prop) (main : T → G) (fin : T) : G := main fin
section
variable {α : Type} {F : Nat → Prop} {k : Nat} {enc : α → List Value} {w w' : World} {s : Sl α}
theorem Rd.far (h : Rd F k enc w s) {p : Addr} (hp : ∀ b, F b → b ≠ p.block) (u : Value) : Rd F k enc (w.setCell p u) s := h.keep fun b hb => Below.heap_setCell w p u b (hp b hb)
theorem Rd.up (h : Rd F k enc w s) (hF : ∀ b, F b → b < w.heap.size) (hb : Below w.heap.size w w') : Rd F k enc w' s := h.keep fun b hb' => hb.block b (hF b hb')
theorem Rd.drew (h : Rd F k enc w s) : Rd F k enc w.drew s := h
theorem Rd.later (h : Rd (· < w.heap.size) k enc w s) (hb : Below w.heap.size w w') : Rd (· < w'.heap.size) k enc w' s := h.below' hb (Nat.le_refl _)
theorem Rd.takeN (h : Rd F k enc w s) (n : Nat) : Rd F k enc w ⟨s.A, s.c, s.l.take n⟩ :=
  ⟨by have := h.1; simp only [List.length_take]; omega, h.2.1, h.2.2.1, fun i x hx => h.2.2.2 i x (by
    simp only [List.getElem?_take] at hx
    split at hx
    · exact hx
    · cases hx)⟩
theorem Rd.nilA (h : Rd F k enc w s) (A : Option Addr) (c : Nat) (hA : A = none → c = 0) (hc : c ≤ maxLen) : Rd F k enc w ⟨A, c, []⟩ := ⟨Nat.zero_le _, hc, hA, fun i x hx => by simp at hx⟩
end
section
variable {F : Nat → Prop} {w w' : World} {s : Sl Int}
theorem Rd.geti {i : Nat} (h : Rd F 1 ienc w s) (hi : i < s.l.length) : ∃ b o, s.A = some ⟨b, o, none⟩ ∧ F b ∧ w.cell? ⟨b, o + i, none⟩ = some (.int .i64 s.l[i]) := by
  obtain ⟨b, o, h1, h2, h3⟩ := h.at1 hi
  refine ⟨b, o, h1, h2, ?_⟩
  have := h3.c1
  rwa [Nat.mul_one] at this
theorem Rd.getv {i : Nat} {x : Int} (h : Rd F 1 ienc w s) (hx : s.l[i]? = some x) : ∃ b o, s.A = some ⟨b, o, none⟩ ∧ F b ∧ w.cell? ⟨b, o + i, none⟩ = some (.int .i64 x) := by
  obtain ⟨hi, rfl⟩ := List.getElem?_eq_some_iff.1 hx
  exact h.geti hi
end
/-- Memory that is new since a heap of this size. -/
def Nw (m : Nat) (w : World) (b : Nat) : Prop := m ≤ b ∧ b < w.heap.size
theorem Nw.lt {m : Nat} {w : World} {b : Nat} (h : Nw m w b) : b < w.heap.size := h.2
theorem Nw.mono {m n : Nat} {w w' : World} {b : Nat} (h : Nw m w b) (hn : n ≤ m) (hs : w.heap.size ≤ w'.heap.size) : Nw n w' b := ⟨Nat.le_trans hn h.1, Nat.lt_of_lt_of_le h.2 hs⟩
theorem Rd.nw {α : Type} {k : Nat} {enc : α → List Value} {m n : Nat} {w w' : World} {s : Sl α} (h : Rd (Nw m w) k enc w s) (hn : n ≤ m) (hb : Below w.heap.size w w') : Rd (Nw n w') k enc w' s :=
  (h.up (fun _ hb' => hb'.lt) hb).mono fun _ hb' => hb'.mono hn hb.size
theorem Rd.nwlt {α : Type} {k : Nat} {enc : α → List Value} {m : Nat} {w : World} {s : Sl α} (h : Rd (Nw m w) k enc w s) : Rd (· < w.heap.size) k enc w s := h.mono fun _ hb => hb.lt
def ints (l : List Int) : Array Value := (l.map (Value.int .i64)).toArray
theorem ints_flat (l : List Int) : (ints l).toList = l.flatMap ienc := by
  unfold ints
  induction l with
  | nil => rfl
  | cons x r ih => simp only [List.map_cons, List.flatMap_cons, ienc] at ih ⊢; simpa using ih
/-- Integers in a block of the call's own: from its head on. -/
def OI (B : Nat) (w : World) (g c : Nat) (l : List Int) : Prop := Own B 3 1 ienc w ⟨some ⟨g, 0, none⟩, c, l⟩
section
variable {B : Nat} {w w' : World} {g c : Nat} {l : List Int}
theorem OI.lt (h : OI B w g c l) : g < w.heap.size := Own.bound h g rfl
theorem OI.ge (h : OI B w g c l) : B ≤ g := by
  rcases Own.form h with ⟨h0, _⟩ | ⟨g', h1, h2, _⟩
  · cases h0
  · injection h1 with h1
    injection h1 with h1
    omega
theorem OI.le (h : OI B w g c l) : l.length ≤ c ∧ c ≤ maxLen := by
  have := Own.rd ienc_k h
  exact ⟨this.1, this.2.1⟩
theorem OI.get (h : OI B w g c l) {i : Nat} {x : Int} (hx : l[i]? = some x) : w.cell? ⟨g, i, none⟩ = some (.int .i64 x) := by
  obtain ⟨b, o, hA, _, hc⟩ := (Own.rd ienc_k h).2.2.2 i x hx
  injection hA with hA
  injection hA with h1 h2
  subst h1 h2
  have := hc.c1
  simpa using this
theorem OI.cell (h : OI B w g c l) {i : Nat} (hi : i < l.length) : w.cell? ⟨g, i, none⟩ = some (.int .i64 l[i]) := h.get (List.getElem?_eq_getElem hi)
theorem OI.frozen (h : OI B w g c l) (i : Nat) : w.frozen? ⟨g, i, none⟩ = false := Own.frozen h rfl i
theorem OI.set (h : OI B w g c l) {i : Nat} (hi : i < l.length) (x : Int) : OI B (w.setCell ⟨g, i, none⟩ (.int .i64 x)) g c (l.set i x) := by
  have := Own.set (s := ⟨some ⟨g, 0, none⟩, c, l⟩) ienc_k h rfl (i := i) (j := 0) (x := l[i]) (y := x) (u := .int .i64 x) (List.getElem?_eq_getElem hi) (by omega) rfl
  unfold OI
  simpa using this
theorem OI.later (h : OI B w g c l) (hb : Below w.heap.size w w') : OI B w' g c l := Own.below h hb
theorem OI.keep (h : OI B w g c l) (hk : w'.heap[g]? = w.heap[g]?) : OI B w' g c l := by
  refine ⟨h.1, ?_⟩
  rcases h.2 with h2 | ⟨g', cap, cur, hv, hg, hh, r⟩
  · exact .inl h2
  · refine .inr ⟨g', cap, cur, hv, hg, ?_, r⟩
    injection hv with hv
    injection hv with hv
    injection hv with hv
    subst hv
    exact hk.trans hh
theorem OI.alloc (h : OI B w g c l) (o : Obj) : OI B (w.alloc o) g c l := Own.alloc h o
theorem OI.drew (h : OI B w g c l) : OI B w.drew g c l := h
theorem OI.new (w : World) (l : List Int) (hm : l.length ≤ maxLen) : OI w.heap.size (w.alloc (.cells (ints l) 3)) w.heap.size l.length l := Own.lit w (ints l) l (Nat.le_refl _) hm (ints_flat l) ienc_k
/-- A part of a block, as a slice. -/
theorem OI.part (h : OI B w g c l) {o n k : Nat} (hn : n ≤ k) (hk : k ≤ maxLen) : Rd (· = g) 1 ienc w ⟨some ⟨g, o, none⟩, k, (l.drop o).take n⟩ :=
  ⟨by simp only [List.length_take, List.length_drop]; omega, hk, (fun h0 => by cases h0), fun i x hx => ⟨g, o, rfl, rfl, fun j u hu => by
    have hj : j = 0 := by
      have := (List.getElem?_eq_some_iff.1 hu).1
      simp only [ienc, List.length_singleton] at this
      omega
    subst hj
    simp only [ienc, List.getElem?_cons_zero, Option.some.injEq] at hu
    subst hu
    rw [Nat.mul_one, Nat.add_zero]
    refine h.get ?_
    simp only [List.getElem?_take, List.getElem?_drop] at hx
    split at hx
    · exact hx
    · cases hx⟩⟩
theorem OI.rd (h : OI B w g c l) : Rd (· = g) 1 ienc w ⟨some ⟨g, 0, none⟩, c, l⟩ := by
  have := h.part (o := 0) (n := l.length) h.le.1 h.le.2
  simpa using this
theorem OI.rdlt (h : OI B w g c l) : Rd (· < w.heap.size) 1 ienc w ⟨some ⟨g, 0, none⟩, c, l⟩ := h.rd.mono fun b hb => by have := h.lt; omega
end
theorem infoInt : Info Tryz.prog 3 (.int .i64 0) 1 8 := info_mk (by kernel_rfl) rfl
theorem make_ints (n : Nat) (hn : n ≤ 100000) (w : World) : (Instr.makeSlice 60 (.int .i64 (n : Int)) (.int .i64 (n : Int))).run Tryz.prog w = .ok (.slice (some ⟨w.heap.size, 0, none⟩) n n) (w.alloc (.cells (ints (List.replicate n 0)) 3)) := by
  obtain ⟨i, hi, hz, hsize, hby, hzs⟩ := infoInt
  have h := run_makeSlice w 60 3 i _ Tryz.underlying60 hi hz .i64 .i64 (n : Int) (n : Int) (by omega) (Int.le_refl _) (by rw [hsize]; omega) (by rw [hby]; omega) (by omega)
  have hc : madeCells (Value.int .i64 0).cells n = ints (List.replicate n 0) := by
    unfold ints madeCells
    apply Array.ext_getElem?
    intro j
    rcases Nat.lt_or_ge j n with hj | hj
    · rw [Array.getElem?_map, Array.getElem?_range, if_pos hj, List.getElem?_toArray, List.getElem?_map, List.getElem?_replicate, if_pos hj]
      simp [Value.cells, Nat.mod_one]
    · rw [Array.getElem?_eq_none (by simpa using hj), Array.getElem?_eq_none (by simpa using hj)]
  rw [h, hsize]
  simp only [Int.toNat_natCast, Nat.mul_one, hc]
theorem Own.takeN {B : Nat} {w : World} {A : Option Addr} {c : Nat} {l : List Int} (h : Own B 3 1 ienc w ⟨A, c, l⟩) (n : Nat) : Own B 3 1 ienc w ⟨A, c, l.take n⟩ := by
  have hf : ∀ l : List Int, (l.flatMap ienc).length = l.length := fun l => by rw [flat_len ienc_k, Nat.mul_one]
  refine ⟨by rw [hf, Nat.mul_one], ?_⟩
  rcases h.2 with ⟨hv, hn⟩ | ⟨g, cap, cur, hv, hg, hh, hnc, hcm, hcs, ht⟩
  · injection hv with h1 h2 h3
    simp only at h1 h2 h3 hn
    have : l = [] := List.eq_nil_of_length_eq_zero hn
    subst this
    exact .inl ⟨by simp only; rw [h1, h3]; simp, by simp⟩
  · injection hv with h1 h2 h3
    simp only at h1 h2 h3 hnc ht
    refine .inr ⟨g, cap, cur, ?_, hg, hh, by simp only [List.length_take]; omega, hcm, hcs, ?_⟩
    · simp only; rw [h1, h3]
    · have e : ∀ (l : List Int) (n : Nat), (l.take n).flatMap ienc = (l.flatMap ienc).take n := by
        intro l
        induction l with
        | nil => intro n; simp
        | cons x r ih => intro n; cases n with
          | zero => simp
          | succ n => simp only [List.take_succ_cons, List.flatMap_cons, ienc, List.singleton_append, ih]
      simp only [List.length_take]
      rw [e, ← ht, List.take_take]
      simp only [Nat.mul_one]
end Go.Proofs.YtcgocdhhneckhaaGreat
/- Walks of package lex: letter, digit, span over both, Word. -/
namespace Go.Proofs.YtcgocdhhneckhaaGreat
open Go.RowKit
theorem bytes_beq (x y : ByteArray) : (x.toList == y.toList) = decide (x = y) := by
  by_cases h : x = y
  · subst h; simp
  · have h2 : x.toList ≠ y.toList := fun hc => h (by rw [ByteArray.toList_eq, ByteArray.toList_eq] at hc; exact ByteArray.ext (Array.toList_inj.1 hc))
    simp [h, h2]
def letC (c : Int) : Bool := decide (97 ≤ c) && decide (c ≤ 122)
def digC (c : Int) : Bool := decide (48 ≤ c) && decide (c ≤ 57)
set_option maxHeartbeats 400000 in
theorem lex_letter (c : Int) (w : World) : Calls Tryz.prog 134 #[.int .u8 c] w fun e w' => e = .returned (.bool (letC c)) ∧ w = w' := by
  by_cases h1 : 97 ≤ c
  · by_cases h2 : c ≤ 122
    · go_enter Tryz.func134, Tryz.ntmps134
      go_wp2_with fail
      go_ret
      exact ⟨ret_bool (by simp [letC, h1, h2]), rfl⟩
    · go_enter Tryz.func134, Tryz.ntmps134
      go_wp2_with fail
      go_ret
      exact ⟨ret_bool (by simp [letC, h1]; omega), rfl⟩
  · go_enter Tryz.func134, Tryz.ntmps134
    go_wp2_with fail
    go_ret
    exact ⟨ret_bool (by simp [letC]; omega), rfl⟩
set_option maxHeartbeats 400000 in
theorem lex_digit (c : Int) (w : World) : Calls Tryz.prog 137 #[.int .u8 c] w fun e w' => e = .returned (.bool (digC c)) ∧ w = w' := by
  by_cases h1 : 48 ≤ c
  · by_cases h2 : c ≤ 57
    · go_enter Tryz.func137, Tryz.ntmps137
      go_wp2_with fail
      go_ret
      exact ⟨ret_bool (by simp [digC, h1, h2]), rfl⟩
    · go_enter Tryz.func137, Tryz.ntmps137
      go_wp2_with fail
      go_ret
      exact ⟨ret_bool (by simp [digC, h1]; omega), rfl⟩
  · go_enter Tryz.func137, Tryz.ntmps137
    go_wp2_with fail
    go_ret
    exact ⟨ret_bool (by simp [digC]; omega), rfl⟩
set_option maxHeartbeats 400000 in
theorem lex_ld (c : Int) (w : World) : Calls Tryz.prog 136 #[.int .u8 c] w fun e w' => e = .returned (.bool (letC c || digC c)) ∧ w = w' := by
  rcases h : letC c
  · go_enter Tryz.func136, Tryz.ntmps136
    go_wp2_with fail
    refine (lex_letter c _).mono ?_
    rintro e w' ⟨rfl, rfl⟩
    rw [h]
    go_wp2_with fail
    refine (lex_digit c _).mono ?_
    rintro e w' ⟨rfl, rfl⟩
    go_wp2_with fail
    go_ret
    exact ⟨ret_bool (by simp), rfl⟩
  · go_enter Tryz.func136, Tryz.ntmps136
    go_wp2_with fail
    refine (lex_letter c _).mono ?_
    rintro e w' ⟨rfl, rfl⟩
    rw [h]
    go_wp2_with fail
    go_ret
    exact ⟨ret_bool (by simp), rfl⟩
def ldC (c : Int) : Bool := letC c || digC c
/-- All bytes are letters or digits. -/
def ldS (s : ByteArray) : Prop := ∀ i, (h : i < s.size) → ldC (s[i].toNat : Int) = true
set_option maxHeartbeats 800000 in
theorem lex_span (s : ByteArray) (w : World) (hs : s.size ≤ 9223372036854775807) :
    Calls Tryz.prog 135 #[.string s, .func (.func 136) #[] #[]] w fun e w' => ∃ n : Nat, e = .returned (.int .i64 n) ∧ (n = s.size ↔ ldS s) ∧ n ≤ s.size ∧ w = w' := by
  go_enter Tryz.func135, Tryz.ntmps135
  go_wp2_with fail
  go_loopw [5] (fun v wr => ∃ (k : Nat), k ≤ s.size ∧ v = .int .i64 k ∧ Hid (∀ i, (h : i < s.size) → i < k → ldC (s[i].toNat : Int) = true) ∧ w = wr) (fun v _ => s.size - (intOf v).toNat)
  case atStart => exact ⟨0, by omega, rfl, Lib.hid (fun i _ hi => absurd hi (Nat.not_lt_zero _)), rfl⟩
  case round =>
    obtain ⟨k, hk, rfl, HP, rfl⟩ := hrel
    by_cases hlt : k < s.size
    · go_wp2_with fail
      refine (lex_ld _ _).mono ?_
      rintro e w' ⟨rfl, rfl⟩
      rcases hb : letC (s[k].toNat : Int) || digC (s[k].toNat : Int)
      · have HNO : Hid (¬ ldS s) := Lib.hid (fun h => by have := h k hlt; unfold ldC at this; rw [hb] at this; cases this)
        clear hb HP
        go_wp2_with fail
        go_ret
        exact ⟨k, rfl, ⟨fun h => by omega, fun h => absurd h HNO.out⟩, by omega, rfl⟩
      · have HN : Hid (∀ i, (h : i < s.size) → i < k + 1 → ldC (s[i].toNat : Int) = true) := Lib.hid (fun i hi hik => by
          by_cases he : i = k
          · subst he; exact hb
          · exact HP.out i hi (by omega))
        clear hb HP
        go_wp2_with fail
        go_roundw
        case rel => exact ⟨k + 1, by omega, by go_num, HN, trivial⟩
        case measure => simp [intOf]; omega
    · have HALL : Hid (ldS s) := Lib.hid (fun i hi => HP.out i hi (by omega))
      have hke : k = s.size := by omega
      subst hke
      clear HP hlt hk
      go_wp2_with fail
      go_ret
      exact ⟨s.size, rfl, by simp [HALL.out], Nat.le_refl _, rfl⟩
def wordB (s : ByteArray) : Bool := decide (0 < s.size) && (letC ((s.data.getD 0 0).toNat : Int) && (decide (s.size ≤ 20) && s.data.all (fun c => ldC (c.toNat : Int))))
theorem ldS_iff (s : ByteArray) : ldS s ↔ s.data.all (fun c => ldC (c.toNat : Int)) = true := by
  rw [Array.all_eq_true]
  exact Iff.rfl
set_option maxHeartbeats 800000 in
theorem lex_word (s : ByteArray) (w : World) (hs : s.size ≤ 9223372036854775807) :
    Calls Tryz.prog 93 #[.string s] w fun e w' => e = .returned (.bool (wordB s)) ∧ w = w' := by
  by_cases h0 : s.size = 0
  · have hse : s = ⟨#[]⟩ := by
      have : s.data = #[] := Array.eq_empty_of_size_eq_zero h0
      cases s
      simp only at this
      rw [this]
    subst hse
    go_enter Tryz.func93, Tryz.ntmps93
    go_wp2_with fail
    go_ret
    exact ⟨rfl, rfl⟩
  · have hp : 0 < s.size := by omega
    have hg : s.data.getD 0 0 = s[0] := by
      show s.data.getD 0 0 = s.data[0]
      have hd : 0 < s.data.size := hp
      simp only [Array.getD]
      rw [dif_pos hd]
      rfl
    have hns : ¬ s = ⟨#[]⟩ := fun h => h0 (by rw [h]; rfl)
    have hn2 : ¬ s.toList = [] := fun h => by
      rw [ByteArray.toList_eq] at h
      exact hns (ByteArray.ext (by simpa using h))
    have hn3 : s.toList.isEmpty = false := by simpa using hn2
    clear hns
    have HW : Hid (wordB s = (letC (s[0].toNat : Int) && (decide (s.size ≤ 20) && s.data.all (fun c => ldC (c.toNat : Int))))) := Lib.hid (by unfold wordB; rw [hg]; simp [hp])
    clear hg
    rcases hl : letC (s[0].toNat : Int)
    · rw [hl] at HW
      go_enter Tryz.func93, Tryz.ntmps93
      go_wp2_with fail
      refine (lex_letter _ _).mono ?_
      rintro e w' ⟨rfl, rfl⟩
      rw [hl]
      go_wp2_with fail
      go_ret
      exact ⟨ret_bool (by rw [HW.out]; simp), rfl⟩
    · rw [hl] at HW
      by_cases h20 : s.size ≤ 20
      · have HL := Lib.hid (ldS_iff s)
        go_enter Tryz.func93, Tryz.ntmps93
        go_wp2_with fail
        refine (lex_letter _ _).mono ?_
        rintro e w' ⟨rfl, rfl⟩
        rw [hl]
        go_wp2_with fail
        refine (lex_span s _ hs).mono ?_
        rintro e w' ⟨n, rfl, hn, hle, rfl⟩
        have HN := Lib.hid hn
        clear hn
        go_wp2_with fail
        go_ret
        refine ⟨ret_bool ?_, rfl⟩
        rw [HW.out]
        by_cases hall : ldS s
        · rw [HL.out.1 hall, HN.out.2 hall]
          simp [h20]
        · have h1 : s.data.all (fun c => ldC (c.toNat : Int)) = false := by
            rcases hb : s.data.all (fun c => ldC (c.toNat : Int))
            · rfl
            · exact absurd (HL.out.2 hb) hall
          have h2 : n ≠ s.size := fun h => hall (HN.out.1 h)
          rw [h1]
          simp
          omega
      · go_enter Tryz.func93, Tryz.ntmps93
        go_wp2_with fail
        refine (lex_letter _ _).mono ?_
        rintro e w' ⟨rfl, rfl⟩
        rw [hl]
        go_wp2_with fail
        go_ret
        exact ⟨ret_bool (by rw [HW.out]; simp; omega), rfl⟩
end Go.Proofs.YtcgocdhhneckhaaGreat
/- Walks: slices.Index and Contains at strings; syntax.reserved, Name. -/
namespace Go.Proofs.YtcgocdhhneckhaaGreat
open Go.RowKit
def senc (s : ByteArray) : List Value := [.string s]
theorem senc_k (s : ByteArray) : (senc s).length = 1 := rfl
theorem senc_one (x : ByteArray) : ∀ u ∈ senc x, u.oneCell' = true := by intro u hu; simp only [senc, List.mem_singleton] at hu; subst hu; rfl
theorem Rd.gets {F : Nat → Prop} {w : World} {s : Sl ByteArray} {i : Nat} (h : Rd F 1 senc w s) (hi : i < s.l.length) : ∃ b o, s.A = some ⟨b, o, none⟩ ∧ F b ∧ w.cell? ⟨b, o + i, none⟩ = some (.string s.l[i]) := by
  obtain ⟨b, o, h1, h2, h3⟩ := h.at1 hi
  refine ⟨b, o, h1, h2, ?_⟩
  have := h3.c1
  rwa [Nat.mul_one] at this
set_option maxHeartbeats 800000 in
theorem idx_str (s : Sl ByteArray) (x : ByteArray) (w : World) (hr : Rd (· < w.heap.size) 1 senc w s) :
    Calls Tryz.prog 138 #[.slice s.A s.l.length s.c, .string x] w fun e w' => ∃ n : Int, e = .returned (.int .i64 n) ∧ (0 ≤ n ↔ x ∈ s.l) ∧ Below w.heap.size w w' := by
  obtain ⟨A, c, l⟩ := s
  have hl := hr.len
  simp only at hl
  have HR := Lib.hid hr
  clear hr
  simp only
  go_enter Tryz.func138, Tryz.ntmps138
  go_wp2_with fail
  go_loopw [8] (fun v wr => ∃ (k : Nat), k ≤ l.length ∧ v = .int .i64 k ∧ Hid (∀ j, (h : j < l.length) → j < k → l[j] ≠ x) ∧ Below w.heap.size w wr) (fun v _ => l.length - (intOf v).toNat)
  case atStart => exact ⟨0, by omega, rfl, Lib.hid (fun j _ hj => absurd hj (Nat.not_lt_zero _)), Below.refl _ _⟩
  case round =>
    obtain ⟨k, hk, rfl, HP, hbel⟩ := hrel
    by_cases hkl : k < l.length
    · obtain ⟨b, o, hA, _, c0⟩ := (HR.out.later hbel).gets hkl
      simp only at hA c0
      subst hA
      by_cases hx : x = l[k]
      · have hin : x ∈ l := hx ▸ List.getElem_mem hkl
        have HIN := Lib.hid hin
        have heq : (x.toList == (l[k]).toList) = true := by rw [bytes_beq]; simpa using hx
        have heq2 : x.toList = (l[k]).toList := by rw [← hx]
        generalize l[k] = y at *
        clear hx hin HP
        go_wp2_with fail
        go_ret
        exact ⟨k, rfl, ⟨fun _ => HIN.out, fun _ => by omega⟩, hbel⟩
      · have HN : Hid (∀ j, (h : j < l.length) → j < k + 1 → l[j] ≠ x) := Lib.hid (fun j hj hjk => by
          by_cases he : j = k
          · subst he; exact fun h => hx h.symm
          · exact HP.out j hj (by omega))
        have heq : (x.toList == (l[k]).toList) = false := by rw [bytes_beq]; simpa using hx
        have heq2 : ¬ x.toList = (l[k]).toList := by simpa using heq
        generalize l[k] = y at *
        clear hx HP
        go_wp2_with fail
        go_roundw
        case rel => exact ⟨k + 1, by omega, by go_num, HN, hbel⟩
        case measure => simp [intOf]; omega
    · have hno : x ∉ l := fun h => by
        obtain ⟨j, hj, hjx⟩ := List.mem_iff_getElem.1 h
        exact HP.out j hj (by omega) hjx
      have HNO := Lib.hid hno
      clear hno HP
      go_wp2_with fail
      go_ret
      exact ⟨-1, rfl, ⟨fun h => by omega, fun h => absurd h HNO.out⟩, hbel⟩
def inL (x : ByteArray) (l : List ByteArray) : Bool := l.any (fun y => x.toList == y.toList)
theorem inL_iff (x : ByteArray) (l : List ByteArray) : inL x l = true ↔ x ∈ l := by
  unfold inL
  rw [List.any_eq_true]
  constructor
  · rintro ⟨y, hy, he⟩
    rw [bytes_beq] at he
    have := of_decide_eq_true he
    subst this
    exact hy
  · intro h
    exact ⟨x, h, by simp⟩
theorem inL_no (x : ByteArray) (l : List ByteArray) (h : x ∉ l) : inL x l = false := by
  rcases he : inL x l
  · rfl
  · exact absurd ((inL_iff x l).1 he) h
def resL : List ByteArray := [⟨#[97, 100, 109, 105, 116]⟩, ⟨#[97, 110, 100]⟩, ⟨#[98, 121, 108, 97, 119, 115]⟩, ⟨#[99, 101, 110, 116, 115]⟩, ⟨#[99, 104, 97, 110, 103, 101]⟩, ⟨#[101, 108, 115, 101]⟩, ⟨#[102, 97, 108, 115, 101]⟩, ⟨#[102, 97, 114, 101]⟩, ⟨#[105, 102]⟩, ⟨#[108, 97, 116, 101]⟩, ⟨#[108, 101, 116]⟩, ⟨#[109, 97, 120]⟩, ⟨#[109, 101, 109, 98, 101, 114]⟩, ⟨#[109, 105, 110]⟩, ⟨#[109, 105, 110, 117, 116, 101, 115]⟩, ⟨#[110, 111, 115, 104, 111, 119]⟩, ⟨#[110, 111, 116]⟩, ⟨#[111, 114]⟩, ⟨#[113, 117, 111, 116, 97]⟩, ⟨#[115, 104, 97, 114, 101]⟩, ⟨#[116, 104, 101, 110]⟩, ⟨#[116, 114, 105, 112]⟩, ⟨#[116, 114, 117, 101]⟩]
set_option maxHeartbeats 800000 in
theorem has_str (s : Sl ByteArray) (x : ByteArray) (w : World) (hr : Rd (· < w.heap.size) 1 senc w s) :
    Calls Tryz.prog 94 #[.slice s.A s.l.length s.c, .string x] w fun e w' => e = .returned (.bool (inL x s.l)) ∧ Below w.heap.size w w' := by
  have HI := idx_str s x w hr
  clear hr
  go_enter Tryz.func94, Tryz.ntmps94
  go_wp2_with fail
  refine HI.mono ?_
  rintro e w' ⟨n, rfl, hn, hb⟩
  have HN := Lib.hid hn
  clear hn
  by_cases h0 : 0 ≤ n
  · have HV := Lib.hid ((inL_iff x s.l).2 (HN.out.1 h0))
    go_wp2_with fail
    go_ret
    exact ⟨ret_bool HV.out.symm, hb⟩
  · have HV := Lib.hid ((inL_no x s.l (fun h => h0 (HN.out.2 h))).trans (decide_eq_false h0).symm)
    clear h0
    go_wp2_with fail
    go_ret
    exact ⟨ret_bool HV.out.symm, hb⟩
def resC : Array Value := #[.string ⟨#[97, 100, 109, 105, 116]⟩, .string ⟨#[97, 110, 100]⟩, .string ⟨#[98, 121, 108, 97, 119, 115]⟩, .string ⟨#[99, 101, 110, 116, 115]⟩, .string ⟨#[99, 104, 97, 110, 103, 101]⟩, .string ⟨#[101, 108, 115, 101]⟩, .string ⟨#[102, 97, 108, 115, 101]⟩, .string ⟨#[102, 97, 114, 101]⟩, .string ⟨#[105, 102]⟩, .string ⟨#[108, 97, 116, 101]⟩, .string ⟨#[108, 101, 116]⟩, .string ⟨#[109, 97, 120]⟩, .string ⟨#[109, 101, 109, 98, 101, 114]⟩, .string ⟨#[109, 105, 110]⟩, .string ⟨#[109, 105, 110, 117, 116, 101, 115]⟩, .string ⟨#[110, 111, 115, 104, 111, 119]⟩, .string ⟨#[110, 111, 116]⟩, .string ⟨#[111, 114]⟩, .string ⟨#[113, 117, 111, 116, 97]⟩, .string ⟨#[115, 104, 97, 114, 101]⟩, .string ⟨#[116, 104, 101, 110]⟩, .string ⟨#[116, 114, 105, 112]⟩, .string ⟨#[116, 114, 117, 101]⟩]
theorem resC_is : resC.toList = resL.flatMap senc := by rfl
set_option maxRecDepth 100000 in
set_option maxHeartbeats 800000 in
theorem syn_reserved (w : World) : Calls Tryz.prog 95 #[] w fun e w' => ∃ s : Sl ByteArray, e = .returned (.slice s.A s.l.length s.c) ∧ s.l = resL ∧ Rd (· < w'.heap.size) 1 senc w' s ∧ Below w.heap.size w w' := by
  have hown : Own w.heap.size 9 1 senc (w.alloc (.cells resC 9)) ⟨some ⟨w.heap.size, 0, none⟩, 23, resL⟩ := Own.lit w resC resL (Nat.le_refl _) (by decide) resC_is senc_k
  have HO := Lib.hid hown
  clear hown
  go_enter Tryz.func95, Tryz.ntmps95
  go_wp2_with fail
  go_ret
  exact ⟨⟨some ⟨w.heap.size, 0, none⟩, 23, resL⟩, rfl, rfl, (HO.out.rd senc_k).mono (fun b hb => hb.2), (by repeat (first | (with_reducible exact Below.refl _ _) | ((with_reducible refine below_setr ?_ ?_); focus (first | (simp; done) | (simp; omega) | omega)) | ((with_reducible refine below_allocr ?_ ?_); focus (first | (simp; done) | (simp; omega) | omega)) | (with_reducible refine Below.drew ?_) | (with_reducible refine below_drewN ?_ _)))⟩
def nameB (s : ByteArray) : Bool := wordB s && !inL s resL
set_option maxHeartbeats 800000 in
theorem syn_name (s : ByteArray) (w : World) (hs : s.size ≤ 9223372036854775807) :
    Calls Tryz.prog 55 #[.string s] w fun e w' => e = .returned (.bool (nameB s)) ∧ Below w.heap.size w w' := by
  have HW := lex_word s w hs
  rcases hw : wordB s
  · rw [hw] at HW
    have HV : Hid (nameB s = false) := Lib.hid (by unfold nameB; rw [hw]; rfl)
    clear hw
    go_enter Tryz.func55, Tryz.ntmps55
    go_wp2_with fail
    refine HW.mono ?_
    rintro e w' ⟨rfl, rfl⟩
    go_wp2_with fail
    go_ret
    exact ⟨ret_bool HV.out.symm, Below.refl _ _⟩
  · rw [hw] at HW
    have HV : Hid (nameB s = !inL s resL) := Lib.hid (by unfold nameB; rw [hw]; rfl)
    clear hw
    go_enter Tryz.func55, Tryz.ntmps55
    go_wp2_with fail
    refine HW.mono ?_
    rintro e w' ⟨rfl, rfl⟩
    go_wp2_with fail
    refine (syn_reserved _).mono ?_
    rintro e w1 ⟨⟨A, c, l⟩, rfl, hl, hr, hb⟩
    simp only at hl
    subst hl
    have hB1 : Below w.heap.size w w1 := hb
    have HR := Lib.hid hr
    clear hr hb
    go_wp2_with fail
    refine (has_str ⟨A, c, resL⟩ s _ HR.out).mono ?_
    rintro e w2 ⟨rfl, hb2⟩
    have hB2 : Below w.heap.size w w2 := hB1.trans (hb2.mono hB1.size)
    clear hb2
    simp only
    generalize inL s resL = bb at *
    go_wp2_with fail
    go_ret
    exact ⟨ret_bool HV.out.symm, hB2⟩
end Go.Proofs.YtcgocdhhneckhaaGreat
