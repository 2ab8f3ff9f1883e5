/- Walks: whether nodes and edges are a graph, whether ranks are right. -/
import Derived.Test.YtlbihfbeamlacaaHbxai
import Derived.Test.YtlbihfbeamlacaaHbxak
set_option linter.unusedSimpArgs false
set_option linter.unusedVariables false
set_option maxRecDepth 100000
set_option maxHeartbeats 6400000
namespace Go.Proofs.Ytlbihfbeamlacaa
open Go.RowKit
theorem cutT {G : Prop} (T : Prop) (main : T→G) (fin : T) : G:=main fin
theorem Rd.far {α : Type} {F : Nat→Prop} {k : Nat} {enc : α→List Value} {w : World} {s : Sl α} (h : Rd F k enc w s) {p : Addr} (hp : ∀ b,F b→b≠p.block) (u : Value) : Rd F k enc (w.setCell p u) s:=h.keep fun b hb=>Below.heap_setCell w p u b (hp b hb)
theorem Rd.up {α : Type} {F : Nat→Prop} {k : Nat} {enc : α→List Value} {w w' : World} {s : Sl α} (h : Rd F k enc w s) (hF : ∀ b,F b→b<w.heap.size) (hb : Below w.heap.size w w') : Rd F k enc w' s:=h.keep fun b hb'=>hb.block b (hF b hb')
def idxP {α : Type} (p : α→Bool) : Nat→List α→Int
  | _,[]=>-1
  | k,x :: l=>if p x then (k : Int) else idxP p (k+1) l
theorem idxP_ge {α : Type} (p : α→Bool) : ∀ (l : List α) (k : Nat),(idxP p k l = -1∧∀ x ∈ l,p x=false)∨∃ (j : Nat) (x : α),idxP p k l=((k+j : Nat) : Int)∧l[j]? = some x∧p x=true∧∀ y ∈ l.take j,p y=false
  | [],k=>.inl ⟨rfl,by simp⟩
  | x :: r,k=>by
    unfold idxP
    by_cases h : p x=true
    · rw [if_pos h]; exact .inr ⟨0,x,rfl,rfl,h,by simp⟩
    · rw [if_neg h]
      have hf : p x=false:=by simpa using h
      rcases idxP_ge p r (k+1) with ⟨h1,h2⟩ | ⟨j,y,h1,h2,h3,h4⟩
      · exact .inl ⟨h1,fun y hy=>by rcases List.mem_cons.1 hy with rfl | hy; exact hf; exact h2 y hy⟩
      · refine .inr ⟨j+1,y,by rw [h1]; congr 1; omega,by simpa using h2,h3,fun z hz=>?_⟩
        rw [List.take_succ_cons] at hz
        rcases List.mem_cons.1 hz with rfl | hz
        · exact hf
        · exact h4 z hz
theorem idxE_gr (l : Sl ED) (p : ED→Bool) (g : Nat) (w : World) (hr : Rd (· < w.heap.size) 4 ED.enc w l) (hp : ∀ W x,x ∈ l.l→Below w.heap.size w W→Calls Try.prog 43 (#[x.v'] ++ #[.pointer (some ⟨g,0,none⟩)]) W fun e w'=>e = .returned (.bool (p x))∧Below W.heap.size W w') :
    Calls Try.prog 54 #[.slice l.A l.l.length l.c,.func (.func 43) #[] #[.pointer (some ⟨g,0,none⟩)]] w fun e w'=>e = .returned (.int .i64 (idxP p 0 l.l))∧Below w.heap.size w w':=by
  obtain ⟨A,c,l⟩:=l
  have hn:=hr.len
  simp only at hn
  have HR:=Lib.hid hr
  clear hr
  simp only
  simp only at hp
  go_enter Try.func54,Try.ntmps54
  go_wp2_with fail
  go_loopw [5,8] (fun u i wr=>∃ (k : Nat),k≤l.length∧i = .int .i64 k∧Below w.heap.size w wr∧Hid (idxP p 0 l=idxP p k (l.drop k))) (fun _ i _=>l.length - (intOf i).toNat)
  case atStart=>exact ⟨0,by omega,rfl,(by repeat (first | (with_reducible exact Below.refl _ _) | ((with_reducible refine below_setr ?_ ?_); focus (first | (simp; done) | (simp; omega) | omega)) | ((with_reducible refine below_allocr ?_ ?_); focus (first | (simp; done) | (simp; omega) | omega)) | (with_reducible refine Below.drew ?_) | (with_reducible refine below_drewN ?_ _))),Lib.hid (by simp)⟩
  case round =>
    obtain ⟨k,hk,rfl,hbel,HG⟩:=hrel
    have hhe : w.heap.size≤wr.heap.size:=hbel.size
    by_cases hlt : k<l.length
    · obtain ⟨b,o,rfl,hb,hcl⟩:=HR.out.at1 hlt
      have hcl2:=hcl.keep (hbel.block b hb)
      have hd : l.drop k=l[k] :: l.drop (k+1):=List.drop_eq_getElem_cons hlt
      have hgo:=HG.out
      rw [hd] at hgo
      have HGO:=Lib.hid hgo
      have hcall:=hp wr l[k] (List.getElem_mem hlt) hbel
      clear hd hgo hcl HG hp
      generalize l[k]=x at *
      obtain ⟨bq,hb0⟩ : ∃ bq,p x=bq:=⟨_,rfl⟩
      rw [hb0] at hcall
      have HB0:=Lib.hid hb0
      clear hb0
      obtain ⟨xf,xt,xn,xv⟩:=x
      have gg:=hcl2.c4
      obtain ⟨g0,g1,g2,g3⟩:=gg
      simp only [ED.v'] at hcall
      clear hcl2
      rcases bq
      · go_wp2_with fail
        refine hcall.mono ?_
        clear hcall
        rintro e w1 ⟨rfl,hb1⟩
        have hB1 : Below w.heap.size w w1:=(by repeat (first | (with_reducible exact hbel) | (with_reducible exact Below.refl _ _) | ((with_reducible refine below_setr ?_ ?_); focus (first | (simp; done) | (simp; omega) | omega)) | ((with_reducible refine below_allocr ?_ ?_); focus (first | (simp; done) | (simp; omega) | omega)) | (with_reducible refine Below.drew ?_) | (with_reducible refine below_drewN ?_ _) | ((with_reducible apply below_via); focus (with_reducible assumption))))
        clear hb1
        go_wp2_with fail
        go_roundw
        case rel=>exact ⟨k+1,by omega,by go_num,hB1,Lib.hid (by rw [HGO.out,idxP,HB0.out]; rfl)⟩
        case measure=>simp [intOf]; omega
      · go_wp2_with fail
        refine hcall.mono ?_
        clear hcall
        rintro e w1 ⟨rfl,hb1⟩
        have hB1 : Below w.heap.size w w1:=(by repeat (first | (with_reducible exact hbel) | (with_reducible exact Below.refl _ _) | ((with_reducible refine below_setr ?_ ?_); focus (first | (simp; done) | (simp; omega) | omega)) | ((with_reducible refine below_allocr ?_ ?_); focus (first | (simp; done) | (simp; omega) | omega)) | (with_reducible refine Below.drew ?_) | (with_reducible refine below_drewN ?_ _) | ((with_reducible apply below_via); focus (with_reducible assumption))))
        clear hb1
        go_wp2_with fail
        go_ret
        exact ⟨ret_int (by rw [HGO.out,idxP,HB0.out]; rfl),hB1⟩
    · have hkl : l.drop k=[]:=List.drop_eq_nil_of_le (by omega)
      have hgo:=HG.out
      rw [hkl] at hgo
      have HGO:=Lib.hid hgo
      clear hkl hgo HG
      go_wp2_with fail
      go_ret
      exact ⟨ret_int (by rw [HGO.out]; rfl),hbel⟩
theorem hasE_gr (l : Sl ED) (p : ED→Bool) (g : Nat) (w : World) (hr : Rd (· < w.heap.size) 4 ED.enc w l) (hp : ∀ W x,x ∈ l.l→Below w.heap.size w W→Calls Try.prog 43 (#[x.v'] ++ #[.pointer (some ⟨g,0,none⟩)]) W fun e w'=>e = .returned (.bool (p x))∧Below W.heap.size W w') :
    Calls Try.prog 44 #[.slice l.A l.l.length l.c,.func (.func 43) #[] #[.pointer (some ⟨g,0,none⟩)]] w fun e w'=>e = .returned (.bool (l.l.any p))∧Below w.heap.size w w':=by
  have hcon:=idxE_gr l p g w hr hp
  clear hp hr
  rcases idxP_ge p l.l 0 with ⟨h1,h2⟩ | ⟨j,x,h1,h2,h3,h4⟩
  · rw [h1] at hcon
    have HV:=Lib.hid (show false=l.l.any p from (List.any_eq_false.2 (fun x hx=>by simpa using h2 x hx)).symm)
    clear h1 h2
    go_enter Try.func44,Try.ntmps44
    go_wp2_with fail
    refine hcon.mono ?_
    clear hcon
    rintro e w1 ⟨rfl,hb1⟩
    go_wp2_with fail
    go_ret
    exact ⟨ret_bool HV.out,hb1⟩
  · rw [h1] at hcon
    have HV:=Lib.hid (show true=l.l.any p from (List.any_eq_true.2 ⟨x,List.mem_of_getElem? h2,h3⟩).symm)
    clear h1 h2 h3 h4
    go_enter Try.func44,Try.ntmps44
    go_wp2_with fail
    refine hcon.mono ?_
    clear hcon
    rintro e w1 ⟨rfl,hb1⟩
    go_wp2_with fail
    go_ret
    exact ⟨ret_bool HV.out,hb1⟩
/-- An edge is no edge of a graph of n nodes. -/
def badE (n : Int) (e : ED) : Bool:=decide (e.f<0) || (decide (n≤e.f) || (decide (e.t<0) || (decide (n≤e.t) || (decide (e.n<0) || (decide (1000000<e.n) || decide (e.v≠-1))))))
def graphB (n : Int) (es : List ED) : Bool:=decide (0≤n) && (decide (n≤2000) && (decide (es.length≤20000) && !es.any (badE n)))
theorem graph1 (x : ED) (n : Int) (g : Nat) (w : World) (hg : w.cell? ⟨g,0,none⟩=some (.int .i64 n)) (hgl : g<w.heap.size) :
    Calls Try.prog 43 #[x.v',.pointer (some ⟨g,0,none⟩)] w fun r w'=>r = .returned (.bool (badE n x))∧Below w.heap.size w w':=by
  obtain ⟨xf,xt,xn,xv⟩:=x
  have hne : g≠w.heap.size:=by omega
  simp only [ED.v',badE]
  by_cases h : xf<0
  · go_enter Try.func43,Try.ntmps43
    go_wp2_with fail
    go_ret
    exact ⟨ret_bool (by simp [*]),(by repeat (first | (with_reducible exact Below.refl _ _) | ((with_reducible refine below_setr ?_ ?_); focus (first | (simp; done) | (simp; omega) | omega)) | ((with_reducible refine below_allocr ?_ ?_); focus (first | (simp; done) | (simp; omega) | omega)) | (with_reducible refine Below.drew ?_) | (with_reducible refine below_drewN ?_ _)))⟩
  first
  | replace h:=Int.not_lt.1 h
  | replace h:=Int.not_le.1 h
  by_cases h : n≤xf
  · go_enter Try.func43,Try.ntmps43
    go_wp2_with fail
    go_ret
    exact ⟨ret_bool (by simp [*]),(by repeat (first | (with_reducible exact Below.refl _ _) | ((with_reducible refine below_setr ?_ ?_); focus (first | (simp; done) | (simp; omega) | omega)) | ((with_reducible refine below_allocr ?_ ?_); focus (first | (simp; done) | (simp; omega) | omega)) | (with_reducible refine Below.drew ?_) | (with_reducible refine below_drewN ?_ _)))⟩
  first
  | replace h:=Int.not_lt.1 h
  | replace h:=Int.not_le.1 h
  by_cases h : xt<0
  · go_enter Try.func43,Try.ntmps43
    go_wp2_with fail
    go_ret
    exact ⟨ret_bool (by simp [*]),(by repeat (first | (with_reducible exact Below.refl _ _) | ((with_reducible refine below_setr ?_ ?_); focus (first | (simp; done) | (simp; omega) | omega)) | ((with_reducible refine below_allocr ?_ ?_); focus (first | (simp; done) | (simp; omega) | omega)) | (with_reducible refine Below.drew ?_) | (with_reducible refine below_drewN ?_ _)))⟩
  first
  | replace h:=Int.not_lt.1 h
  | replace h:=Int.not_le.1 h
  by_cases h : n≤xt
  · go_enter Try.func43,Try.ntmps43
    go_wp2_with fail
    go_ret
    exact ⟨ret_bool (by simp [*]),(by repeat (first | (with_reducible exact Below.refl _ _) | ((with_reducible refine below_setr ?_ ?_); focus (first | (simp; done) | (simp; omega) | omega)) | ((with_reducible refine below_allocr ?_ ?_); focus (first | (simp; done) | (simp; omega) | omega)) | (with_reducible refine Below.drew ?_) | (with_reducible refine below_drewN ?_ _)))⟩
  first
  | replace h:=Int.not_lt.1 h
  | replace h:=Int.not_le.1 h
  by_cases h : xn<0
  · go_enter Try.func43,Try.ntmps43
    go_wp2_with fail
    go_ret
    exact ⟨ret_bool (by simp [*]),(by repeat (first | (with_reducible exact Below.refl _ _) | ((with_reducible refine below_setr ?_ ?_); focus (first | (simp; done) | (simp; omega) | omega)) | ((with_reducible refine below_allocr ?_ ?_); focus (first | (simp; done) | (simp; omega) | omega)) | (with_reducible refine Below.drew ?_) | (with_reducible refine below_drewN ?_ _)))⟩
  first
  | replace h:=Int.not_lt.1 h
  | replace h:=Int.not_le.1 h
  by_cases h : 1000000<xn
  · go_enter Try.func43,Try.ntmps43
    go_wp2_with fail
    go_ret
    exact ⟨ret_bool (by simp [*]),(by repeat (first | (with_reducible exact Below.refl _ _) | ((with_reducible refine below_setr ?_ ?_); focus (first | (simp; done) | (simp; omega) | omega)) | ((with_reducible refine below_allocr ?_ ?_); focus (first | (simp; done) | (simp; omega) | omega)) | (with_reducible refine Below.drew ?_) | (with_reducible refine below_drewN ?_ _)))⟩
  first
  | replace h:=Int.not_lt.1 h
  | replace h:=Int.not_le.1 h
  by_cases h : xv = -1
  · subst h
    go_enter Try.func43,Try.ntmps43
    go_wp2_with fail
    go_ret
    exact ⟨ret_bool (by simp [decide_eq_false (show ¬ xf<0 by omega),decide_eq_false (show ¬ n≤xf by omega),decide_eq_false (show ¬ xt<0 by omega),decide_eq_false (show ¬ n≤xt by omega),decide_eq_false (show ¬ xn<0 by omega),decide_eq_false (show ¬ 1000000<xn by omega), -decide_eq_false_iff_not]),(by repeat (first | (with_reducible exact Below.refl _ _) | ((with_reducible refine below_setr ?_ ?_); focus (first | (simp; done) | (simp; omega) | omega)) | ((with_reducible refine below_allocr ?_ ?_); focus (first | (simp; done) | (simp; omega) | omega)) | (with_reducible refine Below.drew ?_) | (with_reducible refine below_drewN ?_ _)))⟩
  · have hb : (xv == -1)=false:=by simpa using h
    go_enter Try.func43,Try.ntmps43
    go_wp2_with fail
    go_ret
    exact ⟨ret_bool (by simp [*]),(by repeat (first | (with_reducible exact Below.refl _ _) | ((with_reducible refine below_setr ?_ ?_); focus (first | (simp; done) | (simp; omega) | omega)) | ((with_reducible refine below_allocr ?_ ?_); focus (first | (simp; done) | (simp; omega) | omega)) | (with_reducible refine Below.drew ?_) | (with_reducible refine below_drewN ?_ _)))⟩
theorem hier_graph (l : Sl ED) (n : Int) (w : World) (hr : Rd (· < w.heap.size) 4 ED.enc w l) :
    Calls Try.prog 24 #[.int .i64 n,.slice l.A l.l.length l.c] w fun r w'=>r = .returned (.bool (graphB n l.l))∧Below w.heap.size w w':=by
  have hmf : ∀ (fn : Fn) (first cap : Array Value) (w : World),(Instr.makeFunc fn first cap).run Try.prog w = .ok (.func fn first cap) w:=fun _ _ _ _=>rfl
  have HR:=Lib.hid hr
  have hn:=hr.len
  clear hr
  obtain ⟨A,c,l⟩:=l
  simp only at hn
  by_cases h0 : n<0
  · go_enter Try.func24,Try.ntmps24
    go_wp2_with fail
    go_ret
    exact ⟨ret_bool (by unfold graphB; rw [decide_eq_false (by omega : ¬ 0≤n)]; simp),(by repeat (first | (with_reducible exact Below.refl _ _) | ((with_reducible refine below_setr ?_ ?_); focus (first | (simp; done) | (simp; omega) | omega)) | ((with_reducible refine below_allocr ?_ ?_); focus (first | (simp; done) | (simp; omega) | omega)) | (with_reducible refine Below.drew ?_) | (with_reducible refine below_drewN ?_ _)))⟩
  replace h0:=Int.not_lt.1 h0
  by_cases h1 : 2000<n
  · go_enter Try.func24,Try.ntmps24
    go_wp2_with fail
    go_ret
    exact ⟨ret_bool (by unfold graphB; rw [decide_eq_false (by omega : ¬ n≤2000)]; simp),(by repeat (first | (with_reducible exact Below.refl _ _) | ((with_reducible refine below_setr ?_ ?_); focus (first | (simp; done) | (simp; omega) | omega)) | ((with_reducible refine below_allocr ?_ ?_); focus (first | (simp; done) | (simp; omega) | omega)) | (with_reducible refine Below.drew ?_) | (with_reducible refine below_drewN ?_ _)))⟩
  replace h1:=Int.not_lt.1 h1
  by_cases h2 : (20000 : Int)<l.length
  · go_enter Try.func24,Try.ntmps24
    go_wp2_with fail
    go_ret
    exact ⟨ret_bool (by unfold graphB; rw [decide_eq_false (by omega : ¬ l.length≤20000)]; simp),(by repeat (first | (with_reducible exact Below.refl _ _) | ((with_reducible refine below_setr ?_ ?_); focus (first | (simp; done) | (simp; omega) | omega)) | ((with_reducible refine below_allocr ?_ ?_); focus (first | (simp; done) | (simp; omega) | omega)) | (with_reducible refine Below.drew ?_) | (with_reducible refine below_drewN ?_ _)))⟩
  replace h2:=Int.not_lt.1 h2
  go_enter Try.func24,Try.ntmps24
  go_wp2_with fail
  have HB1 : Hid (Below w.heap.size w (w.alloc (.cells #[.int .i64 n] 3))):=Lib.hid (by repeat (first | (with_reducible exact Below.refl _ _) | ((with_reducible refine below_setr ?_ ?_); focus (first | (simp; done) | (simp; omega) | omega)) | ((with_reducible refine below_allocr ?_ ?_); focus (first | (simp; done) | (simp; omega) | omega)) | (with_reducible refine Below.drew ?_) | (with_reducible refine below_drewN ?_ _)))
  have HX1 : Hid (Blk (w.alloc (.cells #[.int .i64 n] 3)) w.heap.size 3 #[.int .i64 n]):=Lib.hid (Blk.new _ _ _)
  generalize w.alloc (.cells #[.int .i64 n] 3)=w1 at *
  refine (hasE_gr ⟨A,c,l⟩ (badE n) w.heap.size w1 (HR.out.later HB1.out (Nat.le_refl _)) (fun W x hx hW=>graph1 x n w.heap.size W ((HX1.out.later hW).cell 0) (HX1.out.later hW).lt)).mono ?_
  rintro e w2 ⟨rfl,hb2⟩
  have HB2:=Lib.hid (HB1.out.trans (hb2.mono HB1.out.size))
  clear hb2
  go_wp2_with fail
  go_ret
  exact ⟨ret_bool (by unfold graphB; rw [decide_eq_true h0,decide_eq_true h1,decide_eq_true (by omega : l.length≤20000)]; simp),HB2.out⟩
end Go.Proofs.Ytlbihfbeamlacaa
