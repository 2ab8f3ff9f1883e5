/- Walks: eval.Truth, Whole. -/
import Derived.Test.YtmomlipmpgcheaaGreatDoorWbxbd
import Derived.Test.YtmomlipmpgcheaaGreatDoorWbxay
set_option linter.unusedSimpArgs false
set_option linter.unusedVariables false
set_option maxRecDepth 100000
set_option maxHeartbeats 6400000
namespace Go.Proofs.YtmomlipmpgcheaaGreatDoor
open Go.RowKit
theorem RG.lat {w w' : World} {f : Frc} {p q : Int} (h : RG (· < w.heap.size) w f p q) (hb : Below w.heap.size w w') : RG (· < w'.heap.size) w' f p q:=(h.keep fun b hb'=>hb.block b hb').mono fun _ hb'=>Nat.lt_of_lt_of_le hb' hb.size
def trF (r : FrR) : Bool:=decide (r.e=0) && isF r
def whF (r : FrR) : Int × Int:=if r.e≠0 then (0,r.e) else if r.p<0 then (0,0) else if 1000000000000001 * r.q≤r.p then (0,3) else (r.p / r.q,0)
theorem ev_Truth (b : Byl) (e : PT) (T M : Sl FT) (w : World) (hb : Byl.At (· < w.heap.size) w b) (he : PT.At (· < w.heap.size) w e) (hT : FactsAt (· < w.heap.size) w T) (hM : FactsAt (· < w.heap.size) w M) : Calls Tryz.prog 52 #[b.v,e.v,.slice T.A T.l.length T.c,.slice M.A M.l.length M.c] w fun r w'=>r = .returned (.tuple #[.bool (trF (evalF b.lets.l e T.l M.l)),.int .i64 (evalF b.lets.l e T.l M.l).e])∧Below w.heap.size w w':=by
 obtain ⟨nm,⟨LA,Lc,L⟩,⟨o,n,u,s,A,c,l⟩,⟨oB,nB,uB,sB,AB,cB,lB⟩,⟨oC,nC,uC,sC,AC,cC,lC⟩,⟨oD,nD,uD,sD,AD,cD,lD⟩,q,sh,ch⟩:=b;obtain ⟨xo,xm,xu,xs,xA,xc,xl⟩:=e;have hmf : True:=trivial;have hbb : Below w.heap.size w ((w.alloc (.cells #[.string nm,.slice LA L.length Lc,.int .i64 o,.int .i64 n,.int .i64 u,.string s,.slice A l.length c,.int .i64 oB,.int .i64 nB,.int .i64 uB,.string sB,.slice AB lB.length cB,.int .i64 oC,.int .i64 nC,.int .i64 uC,.string sC,.slice AC lC.length cC,.int .i64 oD,.int .i64 nD,.int .i64 uD,.string sD,.slice AD lD.length cD,.int .i64 q,.int .i64 sh,.int .i64 ch] 29)).alloc (.cells #[.int .i64 xo,.int .i64 xm,.int .i64 xu,.string xs,.slice xA xl.length xc] 25)):=qbl;have hcall:=ev_Value ⟨nm,⟨LA,Lc,L⟩,⟨o,n,u,s,A,c,l⟩,⟨oB,nB,uB,sB,AB,cB,lB⟩,⟨oC,nC,uC,sC,AC,cC,lC⟩,⟨oD,nD,uD,sD,AD,cD,lD⟩,q,sh,ch⟩ ⟨xo,xm,xu,xs,xA,xc,xl⟩ T M _ (hb.later hbb) (he.later hbb) (hT.later hbb) (hM.later hbb);simp only at hcall;obtain ⟨V,hV⟩ : ∃ V,evalF L ⟨xo,xm,xu,xs,xA,xc,xl⟩ T.l M.l=V:=⟨_,rfl⟩;rw [hV] at hcall ⊢;have HBB:=Zh hbb;clear hb he hT hM hV hbb hmf;simp only [Byl.v,PT.v] at hcall ⊢;have HBX:=Zh (show Blk ((w.alloc (.cells #[.string nm,.slice LA L.length Lc,.int .i64 o,.int .i64 n,.int .i64 u,.string s,.slice A l.length c,.int .i64 oB,.int .i64 nB,.int .i64 uB,.string sB,.slice AB lB.length cB,.int .i64 oC,.int .i64 nC,.int .i64 uC,.string sC,.slice AC lC.length cC,.int .i64 oD,.int .i64 nD,.int .i64 uD,.string sD,.slice AD lD.length cD,.int .i64 q,.int .i64 sh,.int .i64 ch] 29)).alloc (.cells #[.int .i64 xo,.int .i64 xm,.int .i64 xu,.string xs,.slice xA xl.length xc] 25)) w.heap.size 29 #[.string nm,.slice LA L.length Lc,.int .i64 o,.int .i64 n,.int .i64 u,.string s,.slice A l.length c,.int .i64 oB,.int .i64 nB,.int .i64 uB,.string sB,.slice AB lB.length cB,.int .i64 oC,.int .i64 nC,.int .i64 uC,.string sC,.slice AC lC.length cC,.int .i64 oD,.int .i64 nD,.int .i64 uD,.string sD,.slice AD lD.length cD,.int .i64 q,.int .i64 sh,.int .i64 ch] from (Blk.new _ _ _).alloc _);go_enter Tryz.func52,Tryz.ntmps52;go_wp2_with (refine wpList_load_row rfl 29 (.tmp 4) rfl _ rfl 29 _ (0,0) _ HBX.out Tryz.underlying29 rfl Zy ?_);clear HBX;refine hcall.mono ?_;clear hcall;rintro e w2 ⟨f,rfl,hok,hno,hb2⟩;have HB2:=Zt HBB hb2;clear hb2 HBB;simp only [Frc.v];by_cases h0 : V.e=0
 ·have HF:=Zh (isF_sign (f:=f) (r:=V) (hok h0).dp.1);have HTR : Hid (trF V=isF V):=Zh (by unfold trF; rw [h0]; simp);have H0:=Zh h0;rw [h0];clear hok hno h0;go_wp2_with fail;refine bodyPost_ret (v:=.tuple #[.bool (f.p.s != 0),.int .i64 0]) ?_ rfl ⟨by rw [HTR.out,← HF.out,H0.out],HB2.out.alloc HB2.out.size _⟩;simp [results,Tryz.results52,go_sem,]
 ·have HTR : Hid (trF V=false):=Zh (by unfold trF; rw [decide_eq_false h0]; rfl);clear hok hno;go_wp2_with fail;refine bodyPost_ret (v:=.tuple #[.bool false,.int .i64 V.e]) ?_ rfl ⟨by rw [HTR.out],HB2.out.alloc HB2.out.size _⟩;simp [results,Tryz.results52,go_sem,]
theorem whF_err {r : FrR} (h : r.e≠0) : whF r=(0,r.e):=by unfold whF; rw [if_pos h]
theorem whF_neg {r : FrR} (h : r.e=0) (h1 : r.p<0) : whF r=(0,0):=by unfold whF; rw [if_neg (fun h'=>h' h),if_pos h1]
theorem whF_big {r : FrR} (h : r.e=0) (h1 : 0≤r.p) (h2 : 1000000000000001 * r.q≤r.p) : whF r=(0,3):=by unfold whF; rw [if_neg (fun h'=>h' h),if_neg Zo,if_pos h2]
theorem whF_ok {r : FrR} (h : r.e=0) (h1 : 0≤r.p) (h2 : ¬ 1000000000000001 * r.q≤r.p) : whF r=(r.p / r.q,0):=by unfold whF; rw [if_neg (fun h'=>h' h),if_neg Zo,if_neg h2]
theorem cmp_most {r : FrR} (hq : 0<r.q) : (0≤cmpI r.p r.q 1000000000000001 1)↔1000000000000001 * r.q≤r.p:=by
 rw [cmpI_sign hq (by decide),Int.mul_one];constructor
 ·intro h;rcases Int.lt_or_le (r.p - 1000000000000001 * r.q) 0 with h0 | h0
  ·rw [Int.sign_eq_neg_one_of_neg h0] at h; omega
  ·omega
 ·intro h;rcases Int.lt_or_le 0 (r.p - 1000000000000001 * r.q) with h0 | h0
  ·rw [Int.sign_eq_one_of_pos h0]; omega
  ·(have : r.p - 1000000000000001 * r.q=0:=by omega);rw [this]; simp
theorem val_step {d : List Int} {k : Nat} (hk : k<d.length) : val (d.drop k)=d[k]+1048576 * val (d.drop (k+1)):=by
 rw [List.drop_eq_getElem_cons hk]; rfl
theorem val_drop_le {d : List Int} (h : DigOK d) (k : Nat) : val (d.drop k)≤val d:=by
 have h1 : d=d.take k ++ d.drop k:=(List.take_append_drop k d).symm;(have hd : DigOK (d.take k)∧DigOK (d.drop k):=by rw [← digOK_app,List.take_append_drop]; exact h);have h2:=val_app (d.take k) (d.drop k);rw [List.take_append_drop] at h2;have h3:=val_nn hd.1;have h4:=val_nn hd.2;have h5:=pw_pos (d.take k).length;have h6 : 1 * val (d.drop k)≤pw (d.take k).length * val (d.drop k):=Int.mul_le_mul_of_nonneg_right Zo h4;omega
def nsT (l : List TH) : List Nat:=l.map (fun x=>x.o.l.length)
def mk0 (w : List Nat) : AN:=⟨false,0,w⟩
def valT (x : TH) (k : Nat) : Int:=(x.v :: x.o.l).getD k 0
def facT (m : Bool) : List TH→List Nat→List FT
  | [],_=>[]
  | x :: r,w=>if x.m=m then ⟨x.nm,valT x (w.headD 0)⟩ :: facT m r w.tail else facT m r w.tail
def ansW (L : List LT) (e : PT) (l : List TH) (w : List Nat) : Bool × Int:=(trF (evalF L e (facT false l w) (facT true l w)),(evalF L e (facT false l w) (facT true l w)).e)
theorem blk_ne_own {α : Type} {base k : Nat} {e t : TypeId} {enc : α→List Value} {w : World} {s : Sl α} {g : Nat} {cs : Array Value} (h : Blk w g t cs) (ho : Own base e k enc w s) (hne : t≠e) : some g≠(Value.slice s.A s.l.length s.c).ownBlock:=by
  intro he
  rcases ho.form with ⟨h1,h2,h3⟩ | ⟨g2,hA,_,_,_,_⟩
  · rw [h1] at he; simp [Value.ownBlock] at he
  · rw [hA] at he
    have hg : g=g2:=by
      simp only [Value.ownBlock] at he
      injection he
    subst hg
    obtain ⟨cur,hB,_⟩:=ho.blk hA
    have:=h.symm.trans hB
    injection this with this
    injection this with h1 h2
    exact hne h2
theorem make_an (w : World) : (Instr.makeSlice 65 (.int .i64 1) (.int .i64 1)).run Tryz.prog w = .ok (.slice (some ⟨w.heap.size,0,none⟩) 1 1) (w.alloc (.cells (mk0 []).enc.toArray 64)):=by
  obtain ⟨i,hi,hz,hsize,hby,hzs⟩:=infoAN
  have h:=run_makeSlice w 65 64 i _ Tryz.underlying65 hi hz .i64 .i64 1 1 (by omega) (Int.le_refl _) (by rw [hsize]; omega) (by rw [hby]; omega) (by omega)
  have hc : madeCells (Value.agg #[.bool false,.int .i64 0,.int .i64 0,.int .i64 0,.int .i64 0,.int .i64 0,.int .i64 0,.int .i64 0,.int .i64 0,.int .i64 0,.int .i64 0]).cells (1 * 11)=(mk0 []).enc.toArray:=by kernel_rfl
  rw [h,hsize]
  simp only [show Int.toNat 1=1 from rfl,hc]
theorem stepW_len (W : List (List Nat)) (n : Nat) : (stepW W n).length=W.length+W.length * n:=by
  unfold stepW
  rw [List.length_append,List.length_map,List.length_flatMap]
  congr 1
  induction W with
  | nil=>simp
  | cons x r ih=>rw [List.map_cons,List.sum_cons,ih,List.length_map,List.length_range,List.length_cons,Nat.succ_mul,Nat.add_comm]
theorem foldW_le : ∀ (ns : List Nat) (W : List (List Nat)),(∀ n,n ∈ ns→n≤2)→(ns.foldl stepW W).length≤W.length * 3 ^ ns.length
  | [],W,_=>by simp
  | n :: ns,W,h=>by
    have ih:=foldW_le ns (stepW W n) fun x hx=>h x (List.mem_cons_of_mem _ hx)
    have h2:=h n (by simp)
    rw [List.foldl_cons]
    refine Nat.le_trans ih ?_
    rw [stepW_len,List.length_cons,Nat.pow_succ,Nat.mul_comm (3 ^ ns.length) 3,← Nat.mul_assoc]
    refine Nat.mul_le_mul_right _ ?_
    have h3 : W.length * n≤W.length * 2:=Nat.mul_le_mul_left _ h2
    omega
theorem enumW_le (ns : List Nat) (h : ∀ n,n ∈ ns→n≤2) : (enumW ns).length≤3 ^ ns.length:=by
  have:=foldW_le ns [[]] h
  unfold enumW
  simpa using this
def resN (F : List Nat→Bool × Int) (ws : List (List Nat)) (n : Nat) : List AN:=(ws.take n).map (fun x=>(⟨(F x).1,(F x).2,x⟩ : AN)) ++ (ws.drop n).map mk0
def ansN (F : List Nat→Bool × Int) (ws : List (List Nat)) : List AN:=ws.map (fun x=>(⟨(F x).1,(F x).2,x⟩ : AN))
theorem resN_z (F : List Nat→Bool × Int) (ws : List (List Nat)) : resN F ws 0=ws.map mk0:=by simp [resN]
theorem resN_all (F : List Nat→Bool × Int) (ws : List (List Nat)) : resN F ws ws.length=ansN F ws:=by simp [resN,ansN]
theorem resN_len (F : List Nat→Bool × Int) (ws : List (List Nat)) (n : Nat) : (resN F ws n).length=ws.length:=by
  simp only [resN,List.length_append,List.length_map,List.length_take,List.length_drop]
  omega
theorem resN_at (F : List Nat→Bool × Int) {ws : List (List Nat)} {n : Nat} {x : List Nat} (h : ws[n]? = some x) : (resN F ws n)[n]? = some (mk0 x):=by
  have hn:=(List.getElem?_eq_some_iff.1 h).1
  have hl : ((ws.take n).map (fun x=>(⟨(F x).1,(F x).2,x⟩ : AN))).length=n:=by rw [List.length_map,List.length_take]; omega
  unfold resN
  rw [List.getElem?_append_right (by omega),hl,Nat.sub_self,List.getElem?_map,List.getElem?_drop,Nat.add_zero,h]
  rfl
theorem resN_set (F : List Nat→Bool × Int) {ws : List (List Nat)} {n : Nat} {x : List Nat} (h : ws[n]? = some x) : (resN F ws n).set n ⟨(F x).1,(F x).2,x⟩=resN F ws (n+1):=by
  have hn:=(List.getElem?_eq_some_iff.1 h).1
  have hl : ((ws.take n).map (fun x=>(⟨(F x).1,(F x).2,x⟩ : AN))).length=n:=by rw [List.length_map,List.length_take]; omega
  have hd : ws.drop n=x :: ws.drop (n+1):=by rw [List.drop_eq_getElem_cons hn]; congr 1; rw [List.getElem?_eq_getElem hn] at h; exact Option.some.inj h
  have ht : ws.take (n+1)=ws.take n ++ [x]:=by rw [List.take_add_one,h]; rfl
  unfold resN
  rw [List.set_append_right _ _ (by omega),hl,Nat.sub_self,hd,ht]
  simp
theorem facT_snoc (m : Bool) (x : TH) : ∀ (l : List TH) (w : List Nat),facT m (l ++ [x]) w=facT m l w ++ (if x.m=m then [⟨x.nm,valT x (w.getD l.length 0)⟩] else [])
  | [],w=>by
    rw [List.nil_append,facT]
    by_cases h : x.m=m <;> simp [h,facT,List.headD_eq_head?_getD,List.getD_eq_getElem?_getD,List.head?_eq_getElem?]
  | y :: r,w=>by
    have ih:=facT_snoc m x r w.tail
    have hg : w.tail.getD r.length 0=w.getD (y :: r).length 0:=by
      rcases w with _ | ⟨a,t⟩
      · simp
      · simp
    rw [List.cons_append,facT,facT,ih,hg]
    split <;> simp
theorem facT_names {m : Bool} : ∀ {l : List TH} {w : List Nat} {f : FT},f ∈ facT m l w→∃ x,x ∈ l∧f.nm=x.nm
  | [],_,_,h=>by simp [facT] at h
  | y :: r,w,f,h=>by
    rw [facT] at h
    split at h
    · rcases List.mem_cons.1 h with rfl | h
      · exact ⟨y,by simp,rfl⟩
      · obtain ⟨x,hx,e⟩:=facT_names h
        exact ⟨x,List.mem_cons_of_mem _ hx,e⟩
    · obtain ⟨x,hx,e⟩:=facT_names h
      exact ⟨x,List.mem_cons_of_mem _ hx,e⟩
theorem facT_len (m : Bool) : ∀ (l : List TH) (w : List Nat),(facT m l w).length≤l.length
  | [],_=>by simp [facT]
  | y :: r,w=>by
    have:=facT_len m r w.tail
    rw [facT]
    split
    · rw [List.length_cons,List.length_cons]; omega
    · rw [List.length_cons]; omega
theorem valT_at {x : TH} {i : Nat} (h : i≤x.o.l.length) : (x.v :: x.o.l)[i]? = some (valT x i):=by
  unfold valT
  rw [List.getD_eq_getElem?_getD]
  rw [List.getElem?_eq_getElem (show i<(x.v :: x.o.l).length by simp; omega)]
  rfl
theorem enc_gw (x : AN) {k : Nat} (h : k<8) : x.enc[3+k]? = some (.int .i64 (gw x.w k)):=by
  match k,h with
  | 0,_=>rfl
  | 1,_=>rfl
  | 2,_=>rfl
  | 3,_=>rfl
  | 4,_=>rfl
  | 5,_=>rfl
  | 6,_=>rfl
  | 7,_=>rfl
structure StF (g : Nat) (W : World) (P Q : Sl FT) : Prop where
  x : Blk W g 90 #[.slice P.A P.l.length P.c,.slice Q.A Q.l.length Q.c]
  p : Own (g+1) 87 2 FT.enc W P
  q : Own (g+1) 87 2 FT.enc W Q
  ne : P.A=none∨P.A≠Q.A
theorem StF.later {g : Nat} {W W' : World} {P Q : Sl FT} (h : StF g W P Q) (hb : Below W.heap.size W W') : StF g W' P Q:=⟨h.x.later hb,h.p.below hb,h.q.below hb,h.ne⟩
theorem StF.drew {g : Nat} {W : World} {P Q : Sl FT} (h : StF g W P Q) : StF g W.drew P Q:=⟨h.x.drew,h.p.drew,h.q.drew,h.ne⟩
theorem StF.new (g : Nat) (W : World) (hx : Blk W g 90 #[.slice none 0 0,.slice none 0 0]) : StF g W ⟨none,0,[]⟩ ⟨none,0,[]⟩:=⟨hx,Own.nil _ _ _ _ _,Own.nil _ _ _ _ _,.inl rfl⟩
def partW (W : List (List Nat)) (n j q : Nat) : List (List Nat):=W.map (fun w=>w ++ [0]) ++ ((W.take j).flatMap (fun w=>(List.range n).map fun k=>w ++ [k+1]) ++ (match W[j]? with | some w=>(List.range q).map (fun k=>w ++ [k+1]) | none=>[]))
theorem partW_z (W : List (List Nat)) (n : Nat) : partW W n 0 0=W.map (fun w=>w ++ [0]):=by
  unfold partW
  rcases W with _ | ⟨x,r⟩ <;> simp
theorem partW_q {W : List (List Nat)} {n j q : Nat} {w : List Nat} (h : W[j]? = some w) : partW W n j (q+1)=partW W n j q ++ [w ++ [q+1]]:=by
  unfold partW
  rw [h]
  simp only [List.range_succ,List.map_append,List.map_cons,List.map_nil,List.append_assoc]
theorem partW_j {W : List (List Nat)} {n j : Nat} {w : List Nat} (h : W[j]? = some w) : partW W n j n=partW W n (j+1) 0:=by
  unfold partW
  rw [h,List.take_add_one,h,List.flatMap_append]
  rcases W[j+1]? with _ | y <;> simp
theorem partW_end (W : List (List Nat)) (n : Nat) : partW W n W.length 0=stepW W n:=by
  unfold partW stepW
  rw [List.getElem?_eq_none (Nat.le_refl _),List.take_length]
  simp
theorem flatW_len (n : Nat) : ∀ W : List (List Nat),(W.flatMap (fun w=>(List.range n).map fun k=>w ++ [k+1])).length=W.length * n
  | []=>by simp
  | x :: r=>by
    rw [List.flatMap_cons,List.length_append,flatW_len n r,List.length_map,List.length_range,List.length_cons,Nat.succ_mul,Nat.add_comm]
theorem partW_len (W : List (List Nat)) (n j q : Nat) : (partW W n j q).length≤W.length+W.length * n+q:=by
  unfold partW
  rw [List.length_append,List.length_append,List.length_map,flatW_len,List.length_take]
  have h1 : min j W.length * n≤W.length * n:=Nat.mul_le_mul_right _ (Nat.min_le_right _ _)
  rcases W[j]? with _ | y
  · simp; omega
  · simp; omega
theorem or_tab : ∀ x,x<16→∀ k,k<4→bits BinOp.or IntKind.i64 ((x : Nat) : Int) (IntKind.i64.wrap (2 ^ k))=((x ||| 1 <<< k : Nat) : Int):=by decide
theorem orW {w : List Nat} {k : Nat} (hk : w.length=k) (h4 : k<4) (q : Nat) : bits BinOp.or IntKind.i64 ((maskW w : Nat) : Int) (IntKind.i64.wrap (2 ^ k))=((maskW (w ++ [q+1]) : Nat) : Int):=by
  have hm : maskW w<16:=by
    have:=maskW_lt w
    have h2 : 2 ^ w.length≤2 ^ 4:=Nat.pow_le_pow_right (by omega) (by omega)
    omega
  rw [or_tab _ hm _ h4,maskW_or,if_neg (by omega),hk]
theorem setW {w : List Nat} {k : Nat} (hk : w.length=k) (h4 : k<4) (q : Nat) {m : Value} : (#[.bool false,.int .i64 0,m,.int .i64 (gw w 0),.int .i64 (gw w 1),.int .i64 (gw w 2),.int .i64 (gw w 3),.int .i64 (gw w 4),.int .i64 (gw w 5),.int .i64 (gw w 6),.int .i64 (gw w 7)] : Array Value).setIfInBounds (3+k) (.int .i64 ((q : Int)+1)) = #[.bool false,.int .i64 0,m,.int .i64 (gw (w ++ [q+1]) 0),.int .i64 (gw (w ++ [q+1]) 1),.int .i64 (gw (w ++ [q+1]) 2),.int .i64 (gw (w ++ [q+1]) 3),.int .i64 (gw (w ++ [q+1]) 4),.int .i64 (gw (w ++ [q+1]) 5),.int .i64 (gw (w ++ [q+1]) 6),.int .i64 (gw (w ++ [q+1]) 7)]:=by
  simp only [gw_snoc,hk]
  match k,h4 with
  | 0,_=>rfl
  | 1,_=>rfl
  | 2,_=>rfl
  | 3,_=>rfl
theorem own_ne {α : Type} {base k : Nat} {e : TypeId} {enc : α→List Value} {w : World} {s : Sl α} {g : Nat} (ho : Own base e k enc w s) (hn : s.A≠some ⟨g,0,none⟩) : (Value.slice s.A s.l.length s.c).ownBlock≠some g:=by
  intro he
  rcases ho.form with ⟨h1,h2,h3⟩ | ⟨g2,hA,_,_,_,_⟩
  · rw [h1] at he; simp [Value.ownBlock] at he
  · rw [hA] at he
    simp only [Value.ownBlock] at he
    injection he with he
    exact hn (by rw [hA,he])
structure StA (w : World) (cs ex : Array Value) (W : World) (O : Sl AN) : Prop where
  b : Below w.heap.size w W
  x : Blk W w.heap.size 29 cs
  y : Blk W (w.heap.size+1) 25 ex
  o : Own (w.heap.size+2) 64 11 AN.enc W O
theorem StA.later {w W W' : World} {cs ex : Array Value} {O : Sl AN} (h : StA w cs ex W O) (hb : Below W.heap.size W W') : StA w cs ex W' O :=
  ⟨h.b.trans (hb.mono h.b.size),h.x.later hb,h.y.later hb,h.o.below hb⟩
theorem StA.grow {w W W' : World} {cs ex : Array Value} {O O' : Sl AN} (h : StA w cs ex W O) (ho : Own (w.heap.size+2) 64 11 AN.enc W' O') (hg : W.grownBy W' (Value.slice O.A O.l.length O.c).ownBlock) : StA w cs ex W' O' :=
  ⟨h.b.grown hg h.b.size (fun j hj=>by have:=own_geI h.o j hj; omega),h.x.grown hg (blk_ne_own h.x h.o (by decide)),h.y.grown hg (blk_ne_own h.y h.o (by decide)),ho⟩
theorem StA.drew {w W : World} {cs ex : Array Value} {O : Sl AN} (h : StA w cs ex W O) : StA w cs ex W.drew O:=⟨h.b.drew,h.x.drew,h.y.drew,h.o.drew⟩
theorem Own.cong {α : Type} {base k : Nat} {e : TypeId} {enc : α→List Value} {w : World} {A : Option Addr} {c : Nat} {l l' : List α} (h : Own base e k enc w ⟨A,c,l⟩) (hl : l'.length=l.length) (he : l'.flatMap enc=l.flatMap enc) : Own base e k enc w ⟨A,c,l'⟩:=by
  unfold Own at *
  rw [hl,he]
  exact h
theorem mk_z (W : List (List Nat)) : ((W.map (fun w=>w ++ [0])).map mk0).flatMap AN.enc=(W.map mk0).flatMap AN.enc:=by
  induction W with
  | nil=>rfl
  | cons x r ih =>
    simp only [List.map_cons,List.flatMap_cons] at ih ⊢
    rw [ih]
    congr 1
    exact enc_z _ _ _
theorem byl_cs (b : Byl) : ∃ cs,b.v = .agg cs∧cs.size=25:=by
  obtain ⟨nm,ls,⟨o,n,u,s,A,c1,l⟩,⟨o2,n2,u2,s2,A2,c2,l2⟩,⟨o3,n3,u3,s3,A3,c3,l3⟩,⟨o4,n4,u4,s4,A4,c4,l4⟩,q,sh,ch⟩:=b
  exact ⟨_,rfl,rfl⟩
theorem own_apart {α β : Type} {b1 b2 k1 k2 : Nat} {e1 e2 : TypeId} {enc1 : α→List Value} {enc2 : β→List Value} {W : World} {P : Sl α} {Q : Sl β} (hp : Own b1 e1 k1 enc1 W P) (hq : Own b2 e2 k2 enc2 W Q) (h : P.A=none∨P.A≠Q.A) : (Value.slice Q.A Q.l.length Q.c).ownBlock=none∨(Value.slice Q.A Q.l.length Q.c).ownBlock≠(Value.slice P.A P.l.length P.c).ownBlock:=by
  rcases hq.form with ⟨h1,_,_⟩ | ⟨gq,h1,_⟩
  · left; rw [h1]; simp [Value.ownBlock]
  · right
    rw [h1] at h ⊢
    rcases hp.form with ⟨h2,_,_⟩ | ⟨gp,h2,_⟩
    · rw [h2]; simp [Value.ownBlock]
    · rw [h2] at h ⊢
      rcases h with h | h
      · cases h
      · intro e
        simp only [Value.ownBlock] at e
        injection e with e
        exact h (by rw [e])
theorem StA.past {w W W' : World} {cs ex : Array Value} {O : Sl AN} {g : Nat} {P : Sl FT} (h : StA w cs ex W O) (hP : Own (g+1) 87 2 FT.enc W P) (hwg : w.heap.size+1≤g) (hO : ∀ b,O.A=some ⟨b,0,none⟩→b<g) (hg : W.grownBy W' (Value.slice P.A P.l.length P.c).ownBlock) : StA w cs ex W' O :=
  ⟨h.b.grown hg h.b.size (fun j hj=>by have:=own_geI hP j hj; omega),h.x.grown hg (fun e=>by have:=own_geI hP _ e.symm; omega),h.y.grown hg (fun e=>by have:=own_geI hP _ e.symm; omega),h.o.kept hg (own_apart hP h.o (by
    rcases hP.form with ⟨h1,_,_⟩ | ⟨gp,h1,h2,_⟩
    · exact .inl h1
    · refine .inr (fun e=>?_)
      have:=hO gp (e.symm.trans h1)
      omega))⟩
theorem StA.setF {w W : World} {cs ex : Array Value} {O : Sl AN} {g : Nat} (h : StA w cs ex W O) (hwg : w.heap.size+2≤g) (hO : ∀ b,O.A=some ⟨b,0,none⟩→b<g) (i : Nat) (u : Value) : StA w cs ex (W.setCell ⟨g,i,none⟩ u) O :=
  ⟨below_setr (by simp only; omega) h.b,h.x.farr (by simp only; omega),h.y.farr (by simp only; omega),h.o.other (fun b hA=>by have:=hO b hA; simp only; omega) u⟩
theorem StF.grow0 {g : Nat} {W W' : World} {P P' Q : Sl FT} (h : StF g W P Q) (hown : Own (g+1) 87 2 FT.enc W' P') (hg : W.grownBy W' (Value.slice P.A P.l.length P.c).ownBlock) (hA : P'.A=P.A∨P'.A=some ⟨W.heap.size,0,none⟩) : StF g (W'.setCell ⟨g,0,none⟩ (.slice P'.A P'.l.length P'.c)) P' Q :=
  ⟨by simpa using (h.x.grown hg (fun e=>by have:=own_geI h.p _ e.symm; omega)).set_ 0 (.slice P'.A P'.l.length P'.c),hown.farr (by simp),(h.q.kept hg (own_apart h.p h.q h.ne)).farr (by simp),by
    rcases hA with e | e
    · rw [e]; exact h.ne
    · refine .inr (fun e2=>?_)
      have:=h.q.bound _ (e2.symm.trans e)
      omega⟩
theorem StF.grow1 {g : Nat} {W W' : World} {P Q Q' : Sl FT} (h : StF g W P Q) (hown : Own (g+1) 87 2 FT.enc W' Q') (hg : W.grownBy W' (Value.slice Q.A Q.l.length Q.c).ownBlock) (hA : Q'.A=Q.A∨Q'.A=some ⟨W.heap.size,0,none⟩) : StF g (W'.setCell ⟨g,1,none⟩ (.slice Q'.A Q'.l.length Q'.c)) P Q' :=
  ⟨by simpa using (h.x.grown hg (fun e=>by have:=own_geI h.q _ e.symm; omega)).set_ 1 (.slice Q'.A Q'.l.length Q'.c),(h.p.kept hg (own_apart h.q h.p (by
    rcases h.ne with e | e
    · rcases hq : Q.A with _ | a
      · exact .inl rfl
      · exact .inr (by rw [e]; simp)
    · exact .inr (fun e2=>e e2.symm)))).farr (by simp),hown.farr (by simp),by
    rcases hA with e | e
    · rw [e]; exact h.ne
    · refine .inr (fun e2=>?_)
      have:=h.p.bound _ (e2.trans e)
      omega⟩
theorem facts_own {B : Nat} {W : World} {P : Sl FT} (h : Own B 87 2 FT.enc W P) (ha : ∀ x,x ∈ P.l→x.nm.size≤9223372036854775807) : FactsAt (· < W.heap.size) W P:=⟨(h.rd FT.enc_k).mono (fun b hb=>hb.2),ha⟩
theorem StA.put {w W : World} {cs ex : Array Value} {F : List Nat→Bool × Int} {ws : List (List Nat)} {n go oc : Nat} {x : List Nat} (h : StA w cs ex W ⟨some ⟨go,0,none⟩,oc,resN F ws n⟩) (hx : ws[n]? = some x) : StA w cs ex ((W.setCell ⟨go,n * 11,none⟩ (.bool (F x).1)).setCell ⟨go,n * 11+1,none⟩ (.int .i64 (F x).2)) ⟨some ⟨go,0,none⟩,oc,resN F ws (n+1)⟩:=by
  have hg : w.heap.size+2≤go:=by
    rcases h.o.form with ⟨h1,_,_⟩ | ⟨g,h1,h2,_⟩
    · cases h1
    · injection h1 with h1; injection h1 with h1; omega
  have h1:=h.o.set (i:=n) (j:=0) (y:=⟨(F x).1,0,x⟩) (u:=.bool (F x).1) AN.enc_k rfl (resN_at F hx) (by omega) rfl
  have hn : n<(resN F ws n).length:=by rw [resN_len]; exact (List.getElem?_eq_some_iff.1 hx).1
  have h2:=h1.set (i:=n) (j:=1) (x:=⟨(F x).1,0,x⟩) (y:=⟨(F x).1,(F x).2,x⟩) (u:=.int .i64 (F x).2) AN.enc_k rfl (by simp only; rw [List.getElem?_set_self hn]) (by omega) rfl
  simp only [List.set_set,resN_set F hx,Nat.add_zero] at h2
  exact ⟨below_setr (by simp only; omega) (below_setr (by simp only; omega) h.b),(h.x.farr (by simp only; omega)).farr (by simp only; omega),(h.y.farr (by simp only; omega)).farr (by simp only; omega),h2⟩
def AnsP (w w' : World) (F : List Nat→Bool × Int) (ws : List (List Nat)) (r : Ending) : Prop:=Below w.heap.size w w'∧∃ (A : Option Addr) (c : Nat),r = .returned (.slice A ws.length c)∧Own (w.heap.size+2) 64 11 AN.enc w' ⟨A,c,ansN F ws⟩
end Go.Proofs.YtmomlipmpgcheaaGreatDoor
