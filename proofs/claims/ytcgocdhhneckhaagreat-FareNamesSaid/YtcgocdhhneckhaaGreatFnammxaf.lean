/- Expressions in memory; IndexFunc and ContainsFunc at any closure; syntax.in, operands. -/
import Derived.Test.YtcgocdhhneckhaaGreatFnammxae
namespace Go.Proofs.YtcgocdhhneckhaaGreat
open Go.RowKit
def idxP {α : Type} (p : α → Bool) : Nat → List α → Int
  | _, [] => -1
  | k, x :: l => if p x then (k : Int) else idxP p (k + 1) l
theorem idxP_ge {α : Type} (p : α → Bool) : ∀ (l : List α) (k : Nat), (idxP p k l = -1 ∧ ∀ x ∈ l, p x = false) ∨ ∃ (j : Nat) (x : α), idxP p k l = ((k + j : Nat) : Int) ∧ l[j]? = some x ∧ p x = true ∧ ∀ y ∈ l.take j, p y = false
  | [], k => .inl ⟨rfl, by simp⟩
  | x :: r, k => by
    unfold idxP
    by_cases h : p x = true
    · rw [if_pos h]; exact .inr ⟨0, x, rfl, rfl, h, by simp⟩
    · rw [if_neg h]
      have hf : p x = false := by simpa using h
      rcases idxP_ge p r (k + 1) with ⟨h1, h2⟩ | ⟨j, y, h1, h2, h3, h4⟩
      · exact .inl ⟨h1, fun y hy => by rcases List.mem_cons.1 hy with rfl | hy; exact hf; exact h2 y hy⟩
      · refine .inr ⟨j + 1, y, by rw [h1]; congr 1; omega, by simpa using h2, h3, fun z hz => ?_⟩
        rw [List.take_succ_cons] at hz
        rcases List.mem_cons.1 hz with rfl | hz
        · exact hf
        · exact h4 z hz
/-- An expression with the places of its slices. -/
inductive PT where
  | mk (op n un : Int) (s : ByteArray) (A : Option Addr) (c : Nat) (l : List PT)
def PT.op : PT → Int | ⟨o, _, _, _, _, _, _⟩ => o
def PT.n : PT → Int | ⟨_, n, _, _, _, _, _⟩ => n
def PT.un : PT → Int | ⟨_, _, u, _, _, _, _⟩ => u
def PT.s : PT → ByteArray | ⟨_, _, _, s, _, _, _⟩ => s
def PT.a : PT → Sl PT | ⟨_, _, _, _, A, c, l⟩ => ⟨A, c, l⟩
def PT.enc : PT → List Value | ⟨o, n, u, s, A, c, l⟩ => [.int .i64 o, .int .i64 n, .int .i64 u, .string s, .slice A l.length c]
def PT.v : PT → Value | ⟨o, n, u, s, A, c, l⟩ => .agg #[.int .i64 o, .int .i64 n, .int .i64 u, .string s, .slice A l.length c]
/-- It lies in memory, in blocks of which F holds. -/
inductive PT.At (F : Nat → Prop) (w : World) : PT → Prop
  | mk {o n u : Int} {s : ByteArray} {A : Option Addr} {c : Nat} {l : List PT} : s.size ≤ 9223372036854775807 → Rd F 5 PT.enc w ⟨A, c, l⟩ → (∀ x, x ∈ l → PT.At F w x) → PT.At F w ⟨o, n, u, s, A, c, l⟩
theorem PT.At.keep {F G : Nat → Prop} {w w' : World} {e : PT} (h : PT.At F w e) (hk : ∀ b, F b → w'.heap[b]? = w.heap[b]?) (hFG : ∀ b, F b → G b) : PT.At G w' e := by
  induction h with
  | mk hs hr _ ih => exact .mk hs ((hr.keep hk).mono hFG) ih
theorem PT.At.later {w w' : World} {e : PT} (h : PT.At (· < w.heap.size) w e) (hb : Below w.heap.size w w') : PT.At (· < w'.heap.size) w' e :=
  h.keep (fun b hb' => hb.block b hb') (fun b hb' => Nat.lt_of_lt_of_le hb' hb.size)
theorem PT.At.rd {F : Nat → Prop} {w : World} {e : PT} (h : PT.At F w e) : Rd F 5 PT.enc w e.a := by cases h with | mk hs hr _ => exact hr
theorem PT.At.all {F : Nat → Prop} {w : World} {e : PT} (h : PT.At F w e) : ∀ x, x ∈ e.a.l → PT.At F w x := by cases h with | mk hs hr hm => exact hm
theorem PT.At.str {F : Nat → Prop} {w : World} {e : PT} (h : PT.At F w e) : e.s.size ≤ 9223372036854775807 := by cases h with | mk hs hr hm => exact hs
set_option maxHeartbeats 1000000 in
theorem idxI_in (l : Sl Int) (p : Int → Bool) (g h : Nat) (w : World) (hr : Rd (· < w.heap.size) 1 ienc w l) (hp : ∀ W x, x ∈ l.l → Below w.heap.size w W → Calls Tryz.prog 97 (#[.int .i64 x] ++ #[.pointer (some ⟨g, 0, none⟩), .pointer (some ⟨h, 0, none⟩)]) W fun e w' => e = .returned (.bool (p x)) ∧ Below W.heap.size W w') :
    Calls Tryz.prog 139 #[.slice l.A l.l.length l.c, .func (.func 97) #[] #[.pointer (some ⟨g, 0, none⟩), .pointer (some ⟨h, 0, none⟩)]] w fun e w' => e = .returned (.int .i64 (idxP p 0 l.l)) ∧ Below w.heap.size w w' := by
  obtain ⟨A, c, l⟩ := l
  have hn := hr.len
  simp only at hn
  have HR := Lib.hid hr
  clear hr
  simp only
  simp only at hp
  go_enter Tryz.func139, Tryz.ntmps139
  go_wp2_with fail
  go_loopw [5, 8] (fun u i wr => ∃ (k : Nat), k ≤ l.length ∧ i = .int .i64 k ∧ Below w.heap.size w wr ∧ Hid (idxP p 0 l = idxP p k (l.drop k))) (fun _ i _ => l.length - (intOf i).toNat)
  case atStart => exact ⟨0, by omega, rfl, qbl, Lib.hid (by simp)⟩
  case round =>
    obtain ⟨k, hk, rfl, hbel, HG⟩ := hrel
    have hhe : w.heap.size ≤ wr.heap.size := hbel.size
    by_cases hlt : k < l.length
    · obtain ⟨b, o, rfl, hb, hcl⟩ := HR.out.at1 hlt
      have hcl2 := hcl.keep (hbel.block b hb)
      have hd : l.drop k = l[k] :: l.drop (k + 1) := List.drop_eq_getElem_cons hlt
      have hgo := HG.out
      rw [hd] at hgo
      have HGO := Lib.hid hgo
      have hcall := hp wr l[k] (List.getElem_mem hlt) hbel
      clear hd hgo hcl HG hp
      generalize l[k] = x at *
      obtain ⟨bq, hb0⟩ : ∃ bq, p x = bq := ⟨_, rfl⟩
      rw [hb0] at hcall
      have HB0 := Lib.hid hb0
      clear hb0
      have g0 := hcl2.c1
      simp only [Nat.mul_one] at g0
      clear hcl2
      rcases bq
      · go_wp2_with fail
        refine hcall.mono ?_
        clear hcall
        rintro e w1 ⟨rfl, hb1⟩
        have hB1 : Below w.heap.size w w1 := qbv
        clear hb1
        go_wp2_with fail
        go_roundw
        case rel => exact ⟨k + 1, by omega, by go_num, hB1, Lib.hid (by rw [HGO.out, idxP, HB0.out]; rfl)⟩
        case measure => simp [intOf]; omega
      · go_wp2_with fail
        refine hcall.mono ?_
        clear hcall
        rintro e w1 ⟨rfl, hb1⟩
        have hB1 : Below w.heap.size w w1 := qbv
        clear hb1
        go_wp2_with fail
        go_ret
        exact ⟨ret_int (by rw [HGO.out, idxP, HB0.out]; rfl), hB1⟩
    · have hkl : l.drop k = [] := List.drop_eq_nil_of_le (by omega)
      have hgo := HG.out
      rw [hkl] at hgo
      have HGO := Lib.hid hgo
      clear hkl hgo HG
      go_wp2_with fail
      go_ret
      exact ⟨ret_int (by rw [HGO.out]; rfl), hbel⟩
set_option maxHeartbeats 1000000 in
theorem hasI_in (l : Sl Int) (p : Int → Bool) (g h : Nat) (w : World) (hr : Rd (· < w.heap.size) 1 ienc w l) (hp : ∀ W x, x ∈ l.l → Below w.heap.size w W → Calls Tryz.prog 97 (#[.int .i64 x] ++ #[.pointer (some ⟨g, 0, none⟩), .pointer (some ⟨h, 0, none⟩)]) W fun e w' => e = .returned (.bool (p x)) ∧ Below W.heap.size W w') :
    Calls Tryz.prog 96 #[.slice l.A l.l.length l.c, .func (.func 97) #[] #[.pointer (some ⟨g, 0, none⟩), .pointer (some ⟨h, 0, none⟩)]] w fun e w' => e = .returned (.bool (l.l.any p)) ∧ Below w.heap.size w w' := by
  have hcon := idxI_in l p g h w hr hp
  clear hp hr
  rcases idxP_ge p l.l 0 with ⟨h1, h2⟩ | ⟨j, x, h1, h2, h3, h4⟩
  · rw [h1] at hcon
    have HV := Lib.hid (show false = l.l.any p from (List.any_eq_false.2 (fun x hx => by simpa using h2 x hx)).symm)
    clear h1 h2
    go_enter Tryz.func96, Tryz.ntmps96
    go_wp2_with fail
    refine hcon.mono ?_
    clear hcon
    rintro e w1 ⟨rfl, hb1⟩
    go_wp2_with fail
    go_ret
    exact ⟨ret_bool HV.out, hb1⟩
  · rw [h1] at hcon
    have HV := Lib.hid (show true = l.l.any p from (List.any_eq_true.2 ⟨x, List.mem_of_getElem? h2, h3⟩).symm)
    clear h1 h2 h3 h4
    go_enter Tryz.func96, Tryz.ntmps96
    go_wp2_with fail
    refine hcon.mono ?_
    clear hcon
    rintro e w1 ⟨rfl, hb1⟩
    go_wp2_with fail
    go_ret
    exact ⟨ret_bool HV.out, hb1⟩
set_option maxHeartbeats 1000000 in
theorem idxI_jn (l : Sl Int) (p : Int → Bool) (g h : Nat) (w : World) (hr : Rd (· < w.heap.size) 1 ienc w l) (hp : ∀ W x, x ∈ l.l → Below w.heap.size w W → Calls Tryz.prog 173 (#[.int .i64 x] ++ #[]) W fun e w' => e = .returned (.bool (p x)) ∧ Below W.heap.size W w') :
    Calls Tryz.prog 139 #[.slice l.A l.l.length l.c, .func (.func 173) #[] #[]] w fun e w' => e = .returned (.int .i64 (idxP p 0 l.l)) ∧ Below w.heap.size w w' := by
  obtain ⟨A, c, l⟩ := l
  have hn := hr.len
  simp only at hn
  have HR := Lib.hid hr
  clear hr
  simp only
  simp only at hp
  go_enter Tryz.func139, Tryz.ntmps139
  go_wp2_with fail
  go_loopw [5, 8] (fun u i wr => ∃ (k : Nat), k ≤ l.length ∧ i = .int .i64 k ∧ Below w.heap.size w wr ∧ Hid (idxP p 0 l = idxP p k (l.drop k))) (fun _ i _ => l.length - (intOf i).toNat)
  case atStart => exact ⟨0, by omega, rfl, qbl, Lib.hid (by simp)⟩
  case round =>
    obtain ⟨k, hk, rfl, hbel, HG⟩ := hrel
    have hhe : w.heap.size ≤ wr.heap.size := hbel.size
    by_cases hlt : k < l.length
    · obtain ⟨b, o, rfl, hb, hcl⟩ := HR.out.at1 hlt
      have hcl2 := hcl.keep (hbel.block b hb)
      have hd : l.drop k = l[k] :: l.drop (k + 1) := List.drop_eq_getElem_cons hlt
      have hgo := HG.out
      rw [hd] at hgo
      have HGO := Lib.hid hgo
      have hcall := hp wr l[k] (List.getElem_mem hlt) hbel
      clear hd hgo hcl HG hp
      generalize l[k] = x at *
      obtain ⟨bq, hb0⟩ : ∃ bq, p x = bq := ⟨_, rfl⟩
      rw [hb0] at hcall
      have HB0 := Lib.hid hb0
      clear hb0
      have g0 := hcl2.c1
      simp only [Nat.mul_one] at g0
      clear hcl2
      rcases bq
      · go_wp2_with fail
        refine hcall.mono ?_
        clear hcall
        rintro e w1 ⟨rfl, hb1⟩
        have hB1 : Below w.heap.size w w1 := qbv
        clear hb1
        go_wp2_with fail
        go_roundw
        case rel => exact ⟨k + 1, by omega, by go_num, hB1, Lib.hid (by rw [HGO.out, idxP, HB0.out]; rfl)⟩
        case measure => simp [intOf]; omega
      · go_wp2_with fail
        refine hcall.mono ?_
        clear hcall
        rintro e w1 ⟨rfl, hb1⟩
        have hB1 : Below w.heap.size w w1 := qbv
        clear hb1
        go_wp2_with fail
        go_ret
        exact ⟨ret_int (by rw [HGO.out, idxP, HB0.out]; rfl), hB1⟩
    · have hkl : l.drop k = [] := List.drop_eq_nil_of_le (by omega)
      have hgo := HG.out
      rw [hkl] at hgo
      have HGO := Lib.hid hgo
      clear hkl hgo HG
      go_wp2_with fail
      go_ret
      exact ⟨ret_int (by rw [HGO.out]; rfl), hbel⟩
set_option maxHeartbeats 1000000 in
theorem hasI_jn (l : Sl Int) (p : Int → Bool) (g h : Nat) (w : World) (hr : Rd (· < w.heap.size) 1 ienc w l) (hp : ∀ W x, x ∈ l.l → Below w.heap.size w W → Calls Tryz.prog 173 (#[.int .i64 x] ++ #[]) W fun e w' => e = .returned (.bool (p x)) ∧ Below W.heap.size W w') :
    Calls Tryz.prog 96 #[.slice l.A l.l.length l.c, .func (.func 173) #[] #[]] w fun e w' => e = .returned (.bool (l.l.any p)) ∧ Below w.heap.size w w' := by
  have hcon := idxI_jn l p g h w hr hp
  clear hp hr
  rcases idxP_ge p l.l 0 with ⟨h1, h2⟩ | ⟨j, x, h1, h2, h3, h4⟩
  · rw [h1] at hcon
    have HV := Lib.hid (show false = l.l.any p from (List.any_eq_false.2 (fun x hx => by simpa using h2 x hx)).symm)
    clear h1 h2
    go_enter Tryz.func96, Tryz.ntmps96
    go_wp2_with fail
    refine hcon.mono ?_
    clear hcon
    rintro e w1 ⟨rfl, hb1⟩
    go_wp2_with fail
    go_ret
    exact ⟨ret_bool HV.out, hb1⟩
  · rw [h1] at hcon
    have HV := Lib.hid (show true = l.l.any p from (List.any_eq_true.2 ⟨x, List.mem_of_getElem? h2, h3⟩).symm)
    clear h1 h2 h3 h4
    go_enter Tryz.func96, Tryz.ntmps96
    go_wp2_with fail
    refine hcon.mono ?_
    clear hcon
    rintro e w1 ⟨rfl, hb1⟩
    go_wp2_with fail
    go_ret
    exact ⟨ret_bool HV.out, hb1⟩
set_option maxHeartbeats 1000000 in
theorem idxE_r (l : Sl PT) (p : PT → Bool) (g : Nat) (w : World) (hr : Rd (· < w.heap.size) 5 PT.enc w l) (hp : ∀ W x, x ∈ l.l → Below w.heap.size w W → Calls Tryz.prog 133 (#[x.v] ++ #[.pointer (some ⟨g, 0, none⟩)]) W fun e w' => e = .returned (.bool (p x)) ∧ Below W.heap.size W w') :
    Calls Tryz.prog 98 #[.slice l.A l.l.length l.c, .func (.func 133) #[] #[.pointer (some ⟨g, 0, none⟩)]] w fun e w' => e = .returned (.int .i64 (idxP p 0 l.l)) ∧ Below w.heap.size w w' := by
  obtain ⟨A, c, l⟩ := l
  have hn := hr.len
  simp only at hn
  have HR := Lib.hid hr
  clear hr
  simp only
  simp only at hp
  go_enter Tryz.func98, Tryz.ntmps98
  go_wp2_with fail
  go_loopw [5, 8] (fun u i wr => ∃ (k : Nat), k ≤ l.length ∧ i = .int .i64 k ∧ Below w.heap.size w wr ∧ Hid (idxP p 0 l = idxP p k (l.drop k))) (fun _ i _ => l.length - (intOf i).toNat)
  case atStart => exact ⟨0, by omega, rfl, qbl, Lib.hid (by simp)⟩
  case round =>
    obtain ⟨k, hk, rfl, hbel, HG⟩ := hrel
    have hhe : w.heap.size ≤ wr.heap.size := hbel.size
    by_cases hlt : k < l.length
    · obtain ⟨b, o, rfl, hb, hcl⟩ := HR.out.at1 hlt
      have hcl2 := hcl.keep (hbel.block b hb)
      have hd : l.drop k = l[k] :: l.drop (k + 1) := List.drop_eq_getElem_cons hlt
      have hgo := HG.out
      rw [hd] at hgo
      have HGO := Lib.hid hgo
      have hcall := hp wr l[k] (List.getElem_mem hlt) hbel
      clear hd hgo hcl HG hp
      generalize l[k] = x at *
      obtain ⟨bq, hb0⟩ : ∃ bq, p x = bq := ⟨_, rfl⟩
      rw [hb0] at hcall
      have HB0 := Lib.hid hb0
      clear hb0
      obtain ⟨op, n, un, s, xA, xc, xl⟩ := x
      have gg := hcl2.c5
      obtain ⟨g0, g1, g2, g3, g4⟩ := gg
      simp only [PT.v] at hcall
      clear hcl2
      rcases bq
      · go_wp2_with fail
        refine hcall.mono ?_
        clear hcall
        rintro e w1 ⟨rfl, hb1⟩
        have hB1 : Below w.heap.size w w1 := qbv
        clear hb1
        go_wp2_with fail
        go_roundw
        case rel => exact ⟨k + 1, by omega, by go_num, hB1, Lib.hid (by rw [HGO.out, idxP, HB0.out]; rfl)⟩
        case measure => simp [intOf]; omega
      · go_wp2_with fail
        refine hcall.mono ?_
        clear hcall
        rintro e w1 ⟨rfl, hb1⟩
        have hB1 : Below w.heap.size w w1 := qbv
        clear hb1
        go_wp2_with fail
        go_ret
        exact ⟨ret_int (by rw [HGO.out, idxP, HB0.out]; rfl), hB1⟩
    · have hkl : l.drop k = [] := List.drop_eq_nil_of_le (by omega)
      have hgo := HG.out
      rw [hkl] at hgo
      have HGO := Lib.hid hgo
      clear hkl hgo HG
      go_wp2_with fail
      go_ret
      exact ⟨ret_int (by rw [HGO.out]; rfl), hbel⟩
set_option maxHeartbeats 1000000 in
theorem hasE_r (l : Sl PT) (p : PT → Bool) (g : Nat) (w : World) (hr : Rd (· < w.heap.size) 5 PT.enc w l) (hp : ∀ W x, x ∈ l.l → Below w.heap.size w W → Calls Tryz.prog 133 (#[x.v] ++ #[.pointer (some ⟨g, 0, none⟩)]) W fun e w' => e = .returned (.bool (p x)) ∧ Below W.heap.size W w') :
    Calls Tryz.prog 58 #[.slice l.A l.l.length l.c, .func (.func 133) #[] #[.pointer (some ⟨g, 0, none⟩)]] w fun e w' => e = .returned (.bool (l.l.any p)) ∧ Below w.heap.size w w' := by
  have hcon := idxE_r l p g w hr hp
  clear hp hr
  rcases idxP_ge p l.l 0 with ⟨h1, h2⟩ | ⟨j, x, h1, h2, h3, h4⟩
  · rw [h1] at hcon
    have HV := Lib.hid (show false = l.l.any p from (List.any_eq_false.2 (fun x hx => by simpa using h2 x hx)).symm)
    clear h1 h2
    go_enter Tryz.func58, Tryz.ntmps58
    go_wp2_with fail
    refine hcon.mono ?_
    clear hcon
    rintro e w1 ⟨rfl, hb1⟩
    go_wp2_with fail
    go_ret
    exact ⟨ret_bool HV.out, hb1⟩
  · rw [h1] at hcon
    have HV := Lib.hid (show true = l.l.any p from (List.any_eq_true.2 ⟨x, List.mem_of_getElem? h2, h3⟩).symm)
    clear h1 h2 h3 h4
    go_enter Tryz.func58, Tryz.ntmps58
    go_wp2_with fail
    refine hcon.mono ?_
    clear hcon
    rintro e w1 ⟨rfl, hb1⟩
    go_wp2_with fail
    go_ret
    exact ⟨ret_bool HV.out, hb1⟩
set_option maxHeartbeats 1000000 in
theorem idxE_R (l : Sl PT) (p : PT → Bool) (g : Nat) (w : World) (hr : Rd (· < w.heap.size) 5 PT.enc w l) (hp : ∀ W x, x ∈ l.l → Below w.heap.size w W → Calls Tryz.prog 59 (#[x.v] ++ #[]) W fun e w' => e = .returned (.bool (p x)) ∧ Below W.heap.size W w') :
    Calls Tryz.prog 98 #[.slice l.A l.l.length l.c, .func (.func 59) #[] #[]] w fun e w' => e = .returned (.int .i64 (idxP p 0 l.l)) ∧ Below w.heap.size w w' := by
  obtain ⟨A, c, l⟩ := l
  have hn := hr.len
  simp only at hn
  have HR := Lib.hid hr
  clear hr
  simp only
  simp only at hp
  go_enter Tryz.func98, Tryz.ntmps98
  go_wp2_with fail
  go_loopw [5, 8] (fun u i wr => ∃ (k : Nat), k ≤ l.length ∧ i = .int .i64 k ∧ Below w.heap.size w wr ∧ Hid (idxP p 0 l = idxP p k (l.drop k))) (fun _ i _ => l.length - (intOf i).toNat)
  case atStart => exact ⟨0, by omega, rfl, qbl, Lib.hid (by simp)⟩
  case round =>
    obtain ⟨k, hk, rfl, hbel, HG⟩ := hrel
    have hhe : w.heap.size ≤ wr.heap.size := hbel.size
    by_cases hlt : k < l.length
    · obtain ⟨b, o, rfl, hb, hcl⟩ := HR.out.at1 hlt
      have hcl2 := hcl.keep (hbel.block b hb)
      have hd : l.drop k = l[k] :: l.drop (k + 1) := List.drop_eq_getElem_cons hlt
      have hgo := HG.out
      rw [hd] at hgo
      have HGO := Lib.hid hgo
      have hcall := hp wr l[k] (List.getElem_mem hlt) hbel
      clear hd hgo hcl HG hp
      generalize l[k] = x at *
      obtain ⟨bq, hb0⟩ : ∃ bq, p x = bq := ⟨_, rfl⟩
      rw [hb0] at hcall
      have HB0 := Lib.hid hb0
      clear hb0
      obtain ⟨op, n, un, s, xA, xc, xl⟩ := x
      have gg := hcl2.c5
      obtain ⟨g0, g1, g2, g3, g4⟩ := gg
      simp only [PT.v] at hcall
      clear hcl2
      rcases bq
      · go_wp2_with fail
        refine hcall.mono ?_
        clear hcall
        rintro e w1 ⟨rfl, hb1⟩
        have hB1 : Below w.heap.size w w1 := qbv
        clear hb1
        go_wp2_with fail
        go_roundw
        case rel => exact ⟨k + 1, by omega, by go_num, hB1, Lib.hid (by rw [HGO.out, idxP, HB0.out]; rfl)⟩
        case measure => simp [intOf]; omega
      · go_wp2_with fail
        refine hcall.mono ?_
        clear hcall
        rintro e w1 ⟨rfl, hb1⟩
        have hB1 : Below w.heap.size w w1 := qbv
        clear hb1
        go_wp2_with fail
        go_ret
        exact ⟨ret_int (by rw [HGO.out, idxP, HB0.out]; rfl), hB1⟩
    · have hkl : l.drop k = [] := List.drop_eq_nil_of_le (by omega)
      have hgo := HG.out
      rw [hkl] at hgo
      have HGO := Lib.hid hgo
      clear hkl hgo HG
      go_wp2_with fail
      go_ret
      exact ⟨ret_int (by rw [HGO.out]; rfl), hbel⟩
set_option maxHeartbeats 1000000 in
theorem hasE_R (l : Sl PT) (p : PT → Bool) (g : Nat) (w : World) (hr : Rd (· < w.heap.size) 5 PT.enc w l) (hp : ∀ W x, x ∈ l.l → Below w.heap.size w W → Calls Tryz.prog 59 (#[x.v] ++ #[]) W fun e w' => e = .returned (.bool (p x)) ∧ Below W.heap.size W w') :
    Calls Tryz.prog 58 #[.slice l.A l.l.length l.c, .func (.func 59) #[] #[]] w fun e w' => e = .returned (.bool (l.l.any p)) ∧ Below w.heap.size w w' := by
  have hcon := idxE_R l p g w hr hp
  clear hp hr
  rcases idxP_ge p l.l 0 with ⟨h1, h2⟩ | ⟨j, x, h1, h2, h3, h4⟩
  · rw [h1] at hcon
    have HV := Lib.hid (show false = l.l.any p from (List.any_eq_false.2 (fun x hx => by simpa using h2 x hx)).symm)
    clear h1 h2
    go_enter Tryz.func58, Tryz.ntmps58
    go_wp2_with fail
    refine hcon.mono ?_
    clear hcon
    rintro e w1 ⟨rfl, hb1⟩
    go_wp2_with fail
    go_ret
    exact ⟨ret_bool HV.out, hb1⟩
  · rw [h1] at hcon
    have HV := Lib.hid (show true = l.l.any p from (List.any_eq_true.2 ⟨x, List.mem_of_getElem? h2, h3⟩).symm)
    clear h1 h2 h3 h4
    go_enter Tryz.func58, Tryz.ntmps58
    go_wp2_with fail
    refine hcon.mono ?_
    clear hcon
    rintro e w1 ⟨rfl, hb1⟩
    go_wp2_with fail
    go_ret
    exact ⟨ret_bool HV.out, hb1⟩
end Go.Proofs.YtcgocdhhneckhaaGreat
