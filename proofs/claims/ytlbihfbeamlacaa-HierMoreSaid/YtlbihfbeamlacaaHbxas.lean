/- Walks: slices.Clone, IndexFunc, DeleteFunc, Sort, Reverse of numbers. -/
import Derived.Test.YtlbihfbeamlacaaHbxap
import Derived.Test.YtlbihfbeamlacaaHbxaq
import Derived.Test.YtlbihfbeamlacaaHbxar
import Derived.Sort.OwnSortedInts
set_option linter.unusedSimpArgs false
set_option linter.unusedVariables false
set_option maxRecDepth 100000
set_option maxHeartbeats 6400000
namespace Go.Proofs.Ytlbihfbeamlacaa
open Go.RowKit
theorem clone_int (s : Sl Int) (w : World) (hr : Rd (· < w.heap.size) 1 ienc w s) (hb : s.l.length * 8≤140737488355328) :
    Calls Try.prog 28 #[.slice s.A s.l.length s.c] w fun e w'=>∃ A c,e = .returned (.slice A s.l.length c)∧Own w.heap.size 3 1 ienc w' ⟨A,c,s.l⟩∧Below w.heap.size w w':=by
  obtain ⟨A,c,l⟩:=s
  have hcap:=hr.cap
  have hlc:=hr.lecap
  simp only at hcap hlc hb
  rcases A with _ | ad
  · obtain ⟨hl,hc⟩:=hr.none_ rfl
    simp only at hl hc
    subst hl; subst hc
    have hnil:=fun W=>Lib.run_eql_slice_nil (P:=Try.prog) W 23 3 none 0 0 0 0 Try.underlying23
    go_enter Try.func28,Try.ntmps28
    go_wp2_with fail
    go_ret
    exact ⟨none,0,rfl,Own.nil _ _ _ _ _,Below.refl _ _⟩
  · have HR:=Lib.hid hr
    clear hr
    have hnil:=fun W=>Lib.run_eql_slice_nil (P:=Try.prog) W 23 3 (some ad) l.length c 0 0 Try.underlying23
    go_enter Try.func28,Try.ntmps28
    go_wp2_with (at_builtin
                 go_must (refine wpl_append_sl _ rfl (.tmp 5) (.tmp 6) _ rfl Try.underlying23 infoInt (by omega) ienc_k ienc_one ⟨some ⟨w.heap.size,0,none⟩,0,[]⟩ ⟨some ad,c,l⟩ rfl rfl (Own.lit w #[] [] (Nat.le_refl _) (Nat.zero_le _) rfl ienc_k) (HR.out.lt_alloc _) (by simp [maxLen]; omega) (by simp; omega) (by simp) ?_)
                 intro A' c' w1 hown hg _)
    go_ret
    exact ⟨A',c',rfl,hown,((Below.refl _ _).alloc (Nat.le_refl _) _).grown hg (by simp) (by simp [Value.ownBlock])⟩
theorem idxI_lo (l : Sl Int) (p : Int→Bool) (gr gv : Nat) (w : World) (hr : Rd (· < w.heap.size) 1 ienc w l) (hp : ∀ W x,x ∈ l.l→Below w.heap.size w W→Calls Try.prog 46 (#[.int .i64 x] ++ #[.pointer (some ⟨gr,0,none⟩),.pointer (some ⟨gv,0,none⟩)]) W fun e w'=>e = .returned (.bool (p x))∧Below W.heap.size W w') :
    Calls Try.prog 55 #[.slice l.A l.l.length l.c,.func (.func 46) #[] #[.pointer (some ⟨gr,0,none⟩),.pointer (some ⟨gv,0,none⟩)]] w fun e w'=>e = .returned (.int .i64 (idxP p 0 l.l))∧Below w.heap.size w w':=by
  obtain ⟨A,c,l⟩:=l
  have hn:=hr.len
  simp only at hn
  have HR:=Lib.hid hr
  clear hr
  simp only
  simp only at hp
  go_enter Try.func55,Try.ntmps55
  go_wp2_with fail
  go_loopw [5,8] (fun u i wr=>∃ (k : Nat),k≤l.length∧i = .int .i64 k∧Below w.heap.size w wr∧Hid (idxP p 0 l=idxP p k (l.drop k))) (fun _ i _=>l.length - (intOf i).toNat)
  case atStart=>exact ⟨0,by omega,rfl,(by repeat (first | (with_reducible exact Below.refl _ _) | ((with_reducible refine below_setr ?_ ?_); focus (first | (simp; done) | (simp; omega) | omega)) | ((with_reducible refine below_allocr ?_ ?_); focus (first | (simp; done) | (simp; omega) | omega)) | (with_reducible refine Below.drew ?_) | (with_reducible refine below_drewN ?_ _))),Lib.hid (by simp)⟩
  case round =>
    obtain ⟨k,hk,rfl,hbel,HG⟩:=hrel
    have hhe : w.heap.size≤wr.heap.size:=hbel.size
    by_cases hlt : k<l.length
    · obtain ⟨b,o,rfl,hb,hcl⟩:=HR.out.at1 hlt
      have hcl2:=hcl.keep (hbel.block b hb)
      have hd : l.drop k=l[k] :: l.drop (k+1):=List.drop_eq_getElem_cons hlt
      have hgo:=HG.out
      rw [hd] at hgo
      have HGO:=Lib.hid hgo
      have hcall:=hp wr l[k] (List.getElem_mem hlt) hbel
      clear hd hgo hcl HG hp
      generalize l[k]=x at *
      obtain ⟨bq,hb0⟩ : ∃ bq,p x=bq:=⟨_,rfl⟩
      rw [hb0] at hcall
      have HB0:=Lib.hid hb0
      clear hb0
      have g0:=hcl2.c1
      simp only [Nat.mul_one] at g0
      clear hcl2
      rcases bq
      · go_wp2_with fail
        refine hcall.mono ?_
        clear hcall
        rintro e w1 ⟨rfl,hb1⟩
        have hB1 : Below w.heap.size w w1:=(by repeat (first | (with_reducible exact hbel) | (with_reducible exact Below.refl _ _) | ((with_reducible refine below_setr ?_ ?_); focus (first | (simp; done) | (simp; omega) | omega)) | ((with_reducible refine below_allocr ?_ ?_); focus (first | (simp; done) | (simp; omega) | omega)) | (with_reducible refine Below.drew ?_) | (with_reducible refine below_drewN ?_ _) | ((with_reducible apply below_via); focus (with_reducible assumption))))
        clear hb1
        go_wp2_with fail
        go_roundw
        case rel=>exact ⟨k+1,by omega,by go_num,hB1,Lib.hid (by rw [HGO.out,idxP,HB0.out]; rfl)⟩
        case measure=>simp [intOf]; omega
      · go_wp2_with fail
        refine hcall.mono ?_
        clear hcall
        rintro e w1 ⟨rfl,hb1⟩
        have hB1 : Below w.heap.size w w1:=(by repeat (first | (with_reducible exact hbel) | (with_reducible exact Below.refl _ _) | ((with_reducible refine below_setr ?_ ?_); focus (first | (simp; done) | (simp; omega) | omega)) | ((with_reducible refine below_allocr ?_ ?_); focus (first | (simp; done) | (simp; omega) | omega)) | (with_reducible refine Below.drew ?_) | (with_reducible refine below_drewN ?_ _) | ((with_reducible apply below_via); focus (with_reducible assumption))))
        clear hb1
        go_wp2_with fail
        go_ret
        exact ⟨ret_int (by rw [HGO.out,idxP,HB0.out]; rfl),hB1⟩
    · have hkl : l.drop k=[]:=List.drop_eq_nil_of_le (by omega)
      have hgo:=HG.out
      rw [hkl] at hgo
      have HGO:=Lib.hid hgo
      clear hkl hgo HG
      go_wp2_with fail
      go_ret
      exact ⟨ret_int (by rw [HGO.out]; rfl),hbel⟩
theorem own_cut {base g c : Nat} {w : World} {l r : List Int} (h : Own base 3 1 ienc w ⟨some ⟨g,0,none⟩,c,l ++ r⟩) : Own base 3 1 ienc w ⟨some ⟨g,0,none⟩,c,l⟩:=by
  obtain ⟨cur,hB,hcs,htk,hlc,hcm,hbg⟩:=h.blk rfl
  simp only [Nat.mul_one,List.length_append,List.flatMap_append] at hcs htk hlc hcm
  refine Own.of_blk ienc_k hB (by omega) ?_ (by omega) hcm hbg
  have hl : (l.flatMap ienc).length=l.length * 1:=flat_len ienc_k l
  have h3 : (l.flatMap ienc ++ r.flatMap ienc).take (l.length * 1)=l.flatMap ienc:=by rw [List.take_append_of_le_length (by omega),List.take_of_length_le (by omega)]
  rw [← h3,← htk,List.take_take,Nat.min_eq_left (by omega)]
theorem own_take {base g c : Nat} {w : World} {l : List Int} (h : Own base 3 1 ienc w ⟨some ⟨g,0,none⟩,c,l⟩) (i : Nat) : Own base 3 1 ienc w ⟨some ⟨g,0,none⟩,c,l.take i⟩:=by
  have h1 : l=l.take i ++ l.drop i:=(List.take_append_drop i l).symm
  rw [h1] at h
  exact own_cut h
theorem own_celli {base g c i : Nat} {w : World} {l : List Int} {x : Int} (h : Own base 3 1 ienc w ⟨some ⟨g,0,none⟩,c,l⟩) (hx : l[i]? = some x) : w.cell? ⟨g,i,none⟩=some (.int .i64 x):=by
  obtain ⟨b,o,hA,_,hc⟩:=(h.rd ienc_k).2.2.2 i x hx
  injection hA with hA
  injection hA with h1 h2
  subst h1 h2
  have:=hc.c1
  simpa using this
theorem own_seti {base g c i : Nat} {w : World} {l : List Int} {n : Int} (h : Own base 3 1 ienc w ⟨some ⟨g,0,none⟩,c,l⟩) (hi : i<l.length) :
    Own base 3 1 ienc (w.setCell ⟨g,i,none⟩ (.int .i64 n)) ⟨some ⟨g,0,none⟩,c,l.set i n⟩:=by
  have:=h.set ienc_k rfl (i:=i) (j:=0) (x:=l[i]) (y:=n) (u:=.int .i64 n) (List.getElem?_eq_getElem hi) (by omega) rfl
  simpa using this
/-- While DeleteFunc goes: i numbers were kept of the first j; behind j all is as it was. -/
structure DelI (p : Int→Bool) (l m : List Int) (i j : Nat) : Prop where
  len : m.length=l.length
  lt : i<j
  le : j≤l.length
  kept : m.take i=(l.take j).filter fun x=>!p x
  rest : ∀ t,j≤t→m[t]? = l[t]?
theorem DelI.start {p : Int→Bool} {l : List Int} {j : Nat} {x : Int} (h1 : l[j]? = some x) (h2 : p x=true) (h3 : ∀ y ∈ l.take j,p y=false) : DelI p l l j (j+1):=by
  obtain ⟨hl,_⟩:=List.getElem?_eq_some_iff.1 h1
  refine ⟨rfl,by omega,by omega, ?_,fun _ _=>rfl⟩
  rw [List.take_add_one,h1,List.filter_append,List.filter_eq_self.2 (fun y hy=>by rw [h3 y hy]; rfl)]
  simp [h2]
theorem DelI.drop {p : Int→Bool} {l m : List Int} {i j : Nat} {x : Int} (h : DelI p l m i j) (hx : l[j]? = some x) (hp : p x=true) : DelI p l m i (j+1):=by
  obtain ⟨hl,_⟩:=List.getElem?_eq_some_iff.1 hx
  refine ⟨h.len,by have:=h.lt; omega,by omega, ?_,fun t ht=>h.rest t (by omega)⟩
  rw [List.take_add_one,hx,List.filter_append,← h.kept]
  simp [hp]
theorem DelI.keep {p : Int→Bool} {l m : List Int} {i j : Nat} {x : Int} (h : DelI p l m i j) (hx : l[j]? = some x) (hp : p x=false) : DelI p l (m.set i x) (i+1) (j+1):=by
  obtain ⟨hl,_⟩:=List.getElem?_eq_some_iff.1 hx
  have:=h.lt
  have:=h.len
  refine ⟨by rw [List.length_set]; exact h.len,by omega,by omega, ?_,fun t ht=>?_⟩
  · have e1 : l.take (j+1)=l.take j ++ [x]:=by rw [List.take_add_one,hx]; rfl
    have e2 : (m.set i x).take (i+1)=m.take i ++ [x]:=by
      rw [List.take_add_one,List.getElem?_set,if_pos rfl,if_pos (by omega),List.take_set_of_le (Nat.le_refl _)]
      rfl
    rw [e1,e2,List.filter_append,← h.kept]
    simp [hp]
  · rw [List.getElem?_set,if_neg (by omega)]
    exact h.rest t (by omega)
theorem grown_refl {w : World} {row : Option Nat} : w.grownBy w row:=⟨rfl,rfl,rfl,Nat.le_refl _,fun _ _ _=>rfl⟩
theorem grown_trans {w w1 w2 : World} {row : Option Nat} (h : w.grownBy w1 row) (h2 : w1.grownBy w2 row) : w.grownBy w2 row:=⟨h2.os.trans h.os,h2.tape.trans h.tape,h2.output.trans h.output,Nat.le_trans h.size h2.size,fun b hb hne=>(h2.block b (Nat.lt_of_lt_of_le hb h.size) hne).trans (h.block b hb hne)⟩
theorem grown_of {w w1 : World} {row : Option Nat} (h : Below w.heap.size w w1) : w.grownBy w1 row:=⟨h.os,h.tape,h.output,h.size,fun b hb _=>h.block b hb⟩
theorem grown_below {w w1 w2 : World} {row : Option Nat} (h : w.grownBy w1 row) (h2 : Below w1.heap.size w1 w2) : w.grownBy w2 row:=grown_trans h (grown_of h2)
theorem grown_set {w w1 : World} {g i : Nat} {u : Value} (h : w.grownBy w1 (some g)) : w.grownBy (w1.setCell ⟨g,i,none⟩ u) (some g):=by
  have h2:=(Below.refl (Nat.min g w1.heap.size) w1).setCell (p:=⟨g,i,none⟩) (Nat.min_le_left _ _) u
  exact ⟨h2.os.trans h.os,h2.tape.trans h.tape,h2.output.trans h.output,Nat.le_trans h.size h2.size,fun b hb hne=>(Below.heap_setCell w1 ⟨g,i,none⟩ u b (fun (e : b=g)=>hne (by rw [e]))).trans (h.block b hb hne)⟩
theorem below_of_grown {w w1 : World} {row : Option Nat} {B : Nat} (h : w.grownBy w1 row) (hB : B≤w.heap.size) (hr : ∀ m,row=some m→B≤m) : Below B w w1:=⟨h.os,h.tape,h.output,h.size,fun b hb=>h.block b (Nat.lt_of_lt_of_le hb hB) (fun e=>by have:=hr b e.symm; omega)⟩
/-- What DeleteFunc leaves. -/
def DelP (base : Nat) (w w' : World) (s : Sl Int) (m : List Int) (r : Ending) : Prop:=r = .returned (.slice s.A m.length s.c)∧Own base 3 1 ienc w' ⟨s.A,s.c,m⟩∧w.grownBy w' (Value.slice s.A s.l.length s.c).ownBlock
theorem del_lo (base : Nat) (s : Sl Int) (p : Int→Bool) (gr gv : Nat) (w : World) (hown : Own base 3 1 ienc w s) (hb : base≤w.heap.size) (hlen : s.l.length≤100000) (hp : ∀ W x,x ∈ s.l→Below base w W→Calls Try.prog 46 #[.int .i64 x,.pointer (some ⟨gr,0,none⟩),.pointer (some ⟨gv,0,none⟩)] W fun e w'=>e = .returned (.bool (p x))∧Below W.heap.size W w') :
    Calls Try.prog 47 #[.slice s.A s.l.length s.c,.func (.func 46) #[] #[.pointer (some ⟨gr,0,none⟩),.pointer (some ⟨gv,0,none⟩)]] w fun r w'=>DelP base w w' s (s.l.filter fun x=>!p x) r:=by
  have HO:=Lib.hid hown
  have HP:=Lib.hid hp
  have hcon:=idxI_lo s p gr gv w ((hown.rd ienc_k).mono fun b hb=>hb.2) (fun W x hx hW=>hp W x hx (hW.mono hb))
  clear hown hp
  obtain ⟨A,c,l⟩:=s
  simp only at hlen hcon
  rcases idxP_ge p l 0 with ⟨h1,h2⟩ | ⟨j,x,h1,h2,h3,h4⟩
  · rw [h1] at hcon
    have HV:=Lib.hid (show l.filter (fun x=>!p x)=l from List.filter_eq_self.2 (fun x hx=>by rw [h2 x hx]; rfl))
    simp only
    rw [HV.out]
    clear h1 h2
    go_enter Try.func47,Try.ntmps47
    go_wp2_with fail
    refine hcon.mono ?_
    clear hcon
    rintro e w1 ⟨rfl,hb1⟩
    go_wp2_with fail
    go_ret
    exact ⟨rfl,HO.out.below hb1,grown_of hb1⟩
  · rw [Nat.zero_add] at h1
    rw [h1] at hcon
    have HJ:=Lib.hid (DelI.start h2 h3 h4)
    have hjl : j<l.length:=(List.getElem?_eq_some_iff.1 h2).1
    have hA : ∃ g,A=some ⟨g,0,none⟩:=by
      rcases HO.out.form with ⟨_,_,h0⟩ | ⟨g,h0,_⟩
      · simp only at h0; rw [h0] at hjl; exact absurd hjl (Nat.not_lt_zero _)
      · exact ⟨g,h0⟩
    obtain ⟨g,rfl⟩:=hA
    have HLC : Hid (l.length≤c∧c≤maxLen∧base≤g):=Lib.hid (by
      obtain ⟨cur,_,_,_,h5,h6,h7⟩:=HO.out.blk rfl
      exact ⟨h5,h6,h7⟩)
    clear h1 h2 h3 h4
    go_enter Try.func47,Try.ntmps47
    go_wp2_with fail
    refine hcon.mono ?_
    clear hcon
    rintro e w1 ⟨rfl,hb1⟩
    have HB1 : Hid (w.grownBy w1 (some g)):=Lib.hid (grown_of hb1)
    have HO1:=Lib.hid (HO.out.below hb1)
    clear hb1 HO
    have hjn : ((j : Int) == -1)=false:=beq_eq_false_iff_ne.2 (by omega)
    go_wp2_with fail
    go_loopw [5,6,7] (fun i q _ wr=>∃ (i' j' : Nat) (m : List Int),i = .int .i64 i'∧q = .int .i64 j'∧Hid (DelI p l m i' j')∧Hid (w.grownBy wr (some g))∧Hid (Own base 3 1 ienc wr ⟨some ⟨g,0,none⟩,c,m⟩)) (fun _ q _ _=>l.length - (intOf q).toNat)
    case atStart=>exact ⟨j,j+1,l,rfl,by simp,HJ,HB1,HO1⟩
    case round =>
      obtain ⟨i,q,m,rfl,rfl,HD,HB,HW⟩:=hrel
      have hdl:=HD.out.le
      have hdt:=HD.out.lt
      have hml:=HD.out.len
      by_cases hlt : q<l.length
      · have hlt' : (q : Int)<(l.length : Int):=by omega
        have hx : l[q]? = some l[q]:=List.getElem?_eq_getElem hlt
        have hxm:=List.getElem_mem hlt
        generalize l[q]=x at *
        have g0:=own_celli HW.out ((HD.out.rest q (Nat.le_refl _)).trans hx)
        have HX:=Lib.hid hx
        have hcall:=HP.out wr x hxm (below_of_grown HB.out hb (fun k hk=>by cases hk; exact HLC.out.2.2))
        obtain ⟨bq,hb0⟩ : ∃ bq,p x=bq:=⟨_,rfl⟩
        rw [hb0] at hcall
        have HB0:=Lib.hid hb0
        clear hx hxm hb0
        go_wp2_with fail
        refine hcall.mono ?_
        clear hcall g0
        rintro e w2 ⟨rfl,hb2⟩
        have HW2:=Lib.hid (HW.out.below hb2)
        have HB2:=Lib.hid (grown_below HB.out hb2)
        clear hb2
        rcases bq
        · have kc : ∃ y,w2.cell? ⟨g,i,none⟩=some (.int .i64 y):=⟨m[i]'(by omega),own_celli HW2.out (List.getElem?_eq_getElem (by omega))⟩
          obtain ⟨y,k0⟩:=kc
          have kf:=HW2.out.frozen rfl i
          have HW3:=Lib.hid (own_seti (i:=i) (n:=x) HW2.out (by omega))
          have HB3:=Lib.hid (grown_set (i:=i) (u:=.int .i64 x) HB2.out)
          have HD3:=Lib.hid (HD.out.keep HX.out HB0.out)
          go_wp2_with fail
          go_roundw
          case rel=>exact ⟨i+1,q+1,m.set i x,by go_num,by go_num,HD3,HB3,HW3⟩
          case measure=>simp [intOf]; omega
        · have HD3:=Lib.hid (HD.out.drop HX.out HB0.out)
          go_wp2_with fail
          go_roundw
          case rel=>exact ⟨i,q+1,m,rfl,by go_num,HD3,HB2,HW2⟩
          case measure=>simp [intOf]; omega
      · have hql : q=l.length:=by omega
        obtain ⟨cur,hBk,hcs,htk,h5,h6,h7⟩:=HW.out.blk rfl
        simp only [Nat.mul_one] at hcs htk h5 h6
        have HBK:=Lib.hid hBk
        have HCS:=Lib.hid hcs
        have HTK:=Lib.hid htk
        have HFI : Hid (m.take i=l.filter fun x=>!p x):=Lib.hid (by rw [HD.out.kept,hql,List.take_length])
        have HLI : Hid ((l.filter fun x=>!p x).length=i):=Lib.hid (by rw [← HFI.out,List.length_take]; omega)
        clear hBk hcs htk h5 h6 h7
        have hil : i<l.length:=by omega
        have hilt : (i : Int)<(l.length : Int):=by omega
        have hlc:=HLC.out.1
        have hcm:=HLC.out.2.1
        unfold maxLen at hcm
        go_wp2_with (refine wpl_clear_k rfl (.tmp 38) 23 rfl Try.underlying23 infoInt (by intro v hv; simp [Value.cells] at hv; subst hv; rfl) g i (l.length - i) (c - i) (by omega) cur 3 rfl HBK.out (by have:=HCS.out; omega) ?_; intro w3 cur3 hB3 hs3 ht3 hg3)
        go_ret
        have hown : Own base 3 1 ienc w3 ⟨some ⟨g,0,none⟩,c,l.filter fun x=>!p x⟩:=by
          refine Own.of_blk ienc_k hB3 (by rw [hs3,Nat.mul_one]; exact HCS.out) ?_ (by rw [HLI.out]; omega) HLC.out.2.1 HLC.out.2.2
          have hl1 : (m.take i).flatMap ienc=(m.flatMap ienc).take (i * 1):=(flat_take ienc_k m i).symm
          rw [HLI.out,← HFI.out,hl1,Nat.mul_one,ht3,← HTK.out,List.take_take,Nat.min_eq_left (by omega)]
        exact ⟨by simp only; rw [HLI.out]; rfl,hown,grown_trans HB.out hg3⟩
theorem ienc_map (l : List Int) : l.flatMap ienc=l.map (Value.int .i64):=by
  induction l with
  | nil=>rfl
  | cons x r ih=>simp only [List.flatMap_cons,List.map_cons,ienc,ih]; rfl
theorem sort_own (base : Nat) (s : Sl Int) (w : World) (hown : Own base 3 1 ienc w s) (hm : s.l.length≤100000) :
    Calls Try.prog 48 #[.slice s.A s.l.length s.c] w fun e w'=>e = .returned (.tuple #[])∧∃ m,m.Perm s.l∧Own base 3 1 ienc w' ⟨s.A,s.c,m⟩∧w.grownBy w' (Value.slice s.A s.l.length s.c).ownBlock:=by
  obtain ⟨A,c,l⟩:=s
  simp only at hm
  rcases hown.form with ⟨h1,h2,h3⟩ | ⟨g,h1,_⟩
  · simp only at h1 h2 h3
    subst h1 h2 h3
    refine (Go.Proofs.Try.slices_Sort_int_none none 0 w).mono ?_
    rintro e w' ⟨rfl,rfl⟩
    exact ⟨rfl,[],List.Perm.refl _,hown,grown_refl⟩
  · simp only at h1
    subst h1
    obtain ⟨cur,hB,hcs,htk,hlc,hcm,hbg⟩:=hown.blk rfl
    simp only [Nat.mul_one] at hcs htk hlc hcm
    rw [ienc_map] at htk
    have hH:=Go.holds_of_blockI (w:=w) (g:=g) (e:=3) (ss:=l) hB htk
    refine (Go.Proofs.Try.slices_Sort_int g 0 c l w hH hB.lt (by omega)).mono ?_
    rintro e w' ⟨rfl,n,os,rfl⟩
    refine ⟨rfl,l.mergeSort fun x y=>decide (x≤y),List.mergeSort_perm _ _, ?_, ?_⟩
    · unfold Own
      simp only [List.length_mergeSort,ienc_map]
      exact Go.ownsRow_sortedI (by simp) hbg hB hlc hcm (by omega)
    · exact Go.grownBy_sortedI _
end Go.Proofs.Ytlbihfbeamlacaa
