/- The levels of what is read; walk of syntax.levels. -/
import Derived.Test.YtpbdjpfbhicmdaaGreatDoorCbxbd
set_option linter.unusedSimpArgs false
set_option linter.unusedVariables false
set_option maxRecDepth 100000
set_option maxHeartbeats 6400000
namespace Go.Proofs.YtpbdjpfbhicmdaaGreatDoor
open Go.RowKit
def LevB (tg : Tg) (l : List TK) (x : PS × Int) (r : List TK) : Prop:=r.length≤l.length∧levL x.1+r.length≤l.length+(match tg with | .loop _ _ e=>levL e | _=>0)
theorem bind_ok {α β : Type} {p : PX α} {f : α→List TK→PX β} {y : β} {r : List TK} (h : p.bind f = .ok y r) : ∃ x q,p = .ok x q∧f x q = .ok y r:=by
 cases p with
 | ok x q=>exact ⟨x,q,rfl,h⟩
 | stop p e=>cases h
theorem tl_len {s : ByteArray} {l : List TK} (h : isT s l=true) : l.tail.length+1=l.length:=by
 cases l with
 | nil=>cases h
 | cons x l=>simp
theorem want_len {s : ByteArray} {l r : List TK} {u : Unit} (h : wantT s l = .ok u r) : r.length+1=l.length:=by
 unfold wantT at h;split at h
 ·rename_i hs;injection h with _ h;rw [← h];exact tl_len hs
 ·cases h
theorem name_len {l r : List TK} {s : ByteArray} (h : nameT l = .ok s r) : r.length+1=l.length:=by
 unfold nameT at h;split at h
 ·rename_i hs;injection h with _ h;rw [← h];cases l with
  | nil=>cases hs
  | cons x l=>simp
 ·cases h
theorem unit_len (l : List TK) : (unitT l).2.length≤l.length:=by
 unfold unitT;split
 ·simp
 ·split
  ·simp
  ·exact Nat.le_refl _
theorem lev_leaf (o n u : Int) (s : ByteArray) : levL (.mk o n u s [])=1:=by rw [levL_mk]; rfl
theorem lev_one (o n u : Int) (s : ByteArray) (a : PS) : levL (.mk o n u s [a])=levL a+1:=by rw [levL_mk]; simp [maxL]
theorem lev_two (o n u : Int) (s : ByteArray) (a b : PS) : levL (.mk o n u s [a,b])=max (levL a) (levL b)+1:=by rw [levL_mk]; simp [maxL]
theorem lev_three (o n u : Int) (s : ByteArray) (a b c : PS) : levL (.mk o n u s [a,b,c])=max (levL a) (max (levL b) (levL c))+1:=by rw [levL_mk]; simp [maxL]
theorem pR_lev : ∀ (f : Nat) (tg : Tg) (l : List TK) (x : PS × Int) (r : List TK),pR f tg l = .ok x r→LevB tg l x r
 | 0,tg,l,x,r,h=>by rw [pR] at h; cases h
 | f+1,.exp form,l,x,r,h=>by
  rw [pR] at h;obtain ⟨y,q,h1,h2⟩:=bind_ok h;have a1:=pR_lev f _ _ _ _ h1;have a2:=pR_lev f _ _ _ _ h2;unfold LevB at *;simp only at *;omega
 | f+1,.pre form,l,x,r,h=>by
  rw [pR] at h;split at h
  ·rename_i hc;have hl:=tl_len hc.2;obtain ⟨y,q,h1,h2⟩:=bind_ok h;obtain ⟨_,q2,h3,h4⟩:=bind_ok h2;obtain ⟨z,q3,h5,h6⟩:=bind_ok h4;obtain ⟨_,q4,h7,h8⟩:=bind_ok h6;obtain ⟨v,q5,h9,h10⟩:=bind_ok h8;injection h10 with h11 h12;subst h11 h12;have a1:=pR_lev f _ _ _ _ h1;have a2:=want_len h3;have a3:=pR_lev f _ _ _ _ h5;have a4:=want_len h7;have a5:=pR_lev f _ _ _ _ h9;unfold LevB at *;simp only [lev_three] at *;omega
  ·split at h
   ·rename_i hc;have hl:=tl_len hc.2;obtain ⟨y,q,h1,h2⟩:=bind_ok h;injection h2 with h11 h12;subst h11 h12;have a1:=pR_lev f _ _ _ _ h1;unfold LevB at *;simp only [lev_one] at *;omega
   ·obtain ⟨y,q,h1,h2⟩:=bind_ok h;injection h2 with h11 h12;subst h11 h12;have a1:=pR_lev f _ _ _ _ h1;unfold LevB at *;simp only at *;omega
 | f+1,.prim,[],x,r,h=>by rw [pR] at h; cases h
 | f+1,.prim,t :: l,x,r,h=>by
  rw [pR] at h;split at h
  ·injection h with h11 h12;subst h11 h12;have:=unit_len l;unfold LevB;simp only [lev_leaf,List.length_cons];omega
  split at h
  ·injection h with h11 h12;subst h11 h12;unfold LevB;simp only [lev_leaf,List.length_cons,List.tail_cons];omega
  split at h
  ·injection h with h11 h12;subst h11 h12;unfold LevB;simp only [lev_leaf,List.length_cons,List.tail_cons];omega
  split at h
  ·obtain ⟨y,q,h1,h2⟩:=bind_ok h;injection h2 with h11 h12;subst h11 h12;have:=name_len h1;unfold LevB;simp only [lev_leaf,List.length_cons,List.tail_cons] at *;omega
  split at h
  ·obtain ⟨y,q,h1,h2⟩:=bind_ok h;injection h2 with h11 h12;subst h11 h12;have:=name_len h1;unfold LevB;simp only [lev_leaf,List.length_cons,List.tail_cons] at *;omega
  split at h
  ·obtain ⟨_,q,h1,h2⟩:=bind_ok h;obtain ⟨y,q2,h3,h4⟩:=bind_ok h2;obtain ⟨_,q3,h5,h6⟩:=bind_ok h4;obtain ⟨z,q4,h7,h8⟩:=bind_ok h6;obtain ⟨_,q5,h9,h10⟩:=bind_ok h8;injection h10 with h11 h12;subst h11 h12;have a1:=want_len h1;have a2:=pR_lev f _ _ _ _ h3;have a3:=want_len h5;have a4:=pR_lev f _ _ _ _ h7;have a5:=want_len h9;unfold LevB at *;simp only [lev_two,List.length_cons,List.tail_cons] at *;omega
  split at h
  ·obtain ⟨y,q,h1,h2⟩:=bind_ok h;obtain ⟨_,q2,h3,h4⟩:=bind_ok h2;injection h4 with h11 h12;subst h11 h12;have a1:=pR_lev f _ _ _ _ h1;have a2:=want_len h3;unfold LevB at *;simp only [List.length_cons,List.tail_cons] at *;omega
  ·obtain ⟨y,q,h1,h2⟩:=bind_ok h;injection h2 with h11 h12;subst h11 h12;have:=name_len h1;unfold LevB;simp only [lev_leaf] at *;omega
 | f+1,.loop form own e,l,x,r,h=>by
  rw [pR] at h;split at h
  ·injection h with h11 h12;subst h11 h12;unfold LevB;simp only;omega
  ·rename_i op fm ho;split at h
   ·injection h with h11 h12;subst h11 h12;unfold LevB;simp only;omega
   ·obtain ⟨y,q,h1,h2⟩:=bind_ok h
    have hl : l.tail.length+1=l.length:=by
     cases l with
     | nil=>cases ho
     | cons t l=>simp
    have a1:=pR_lev f _ _ _ _ h1;have a2:=pR_lev f _ _ _ _ h2;unfold LevB at *;simp only [lev_two] at *;omega
theorem maxL_snoc : ∀ (l : List Nat) (x : Nat),maxL (l ++ [x])=max (maxL l) x
 | [],x=>by simp [maxL]
 | a :: l,x=>by simp only [List.cons_append,maxL,maxL_snoc l x]; omega
theorem maxL_left : ∀ (l m : List Nat),maxL l≤maxL (l ++ m)
 | [],_=>Nat.zero_le _
 | a :: l,m=>by simp only [List.cons_append,maxL]; have:=maxL_left l m; omega
theorem maxL_le {l : List Nat} {x : Nat} (h : x ∈ l) : x≤maxL l:=by
 induction l with
 | nil=>cases h
 | cons a l ih =>
  unfold maxL;rcases List.mem_cons.1 h with rfl | h
  ·omega
  ·have:=ih h; omega
theorem syn_levels {w : World} {t : PT} (h : PT.At (· < w.heap.size) w t) : ∀ W,Below w.heap.size w W→levL (shp t)≤1000000→Calls Tryz.prog 87 #[t.v] W fun r w'=>r = .returned (.int .i64 (levL (shp t) : Nat))∧Below W.heap.size W w':=by
 induction h with
 | @mk o n u s A c l hs hr _ ih =>
  intro W hW hlev;(have hsh : levL (shp ⟨o,n,u,s,A,c,l⟩)=maxL (l.map fun x=>levL (shp x))+1:=by rw [shp_mk,levL_mk,List.map_map]; rfl);rw [hsh] at hlev ⊢;have hn:=hr.len;have HR:=Zh (fun W' (hb : Below w.heap.size w W')=>(hr.keep (fun b hb'=>hb.block b hb')).mono (fun b hb'=>Nat.lt_of_lt_of_le hb' hb.size));have HI:=Zh ih;have HW:=Zh hW;have HLV:=Zh hlev;simp only at hn;clear hs hr ih hW hsh hlev;simp only [PT.v];go_enter Tryz.func87,Tryz.ntmps87;go_wp2_with fail;go_loopw [3,9] (fun nv iv wr=>∃ (k : Nat),k≤l.length∧iv = .int .i64 k∧nv = .int .i64 (maxL ((l.take k).map fun x=>levL (shp x)) : Nat)∧Below W.heap.size W wr) (fun _ i _=>l.length - (intOf i).toNat)
  case atStart=>exact ⟨0,Nat.zero_le _,rfl,rfl,qbl⟩
  case round =>
   obtain ⟨k,hk,rfl,rfl,hbel⟩:=hrel;by_cases hlt : k<l.length
   ·have hbw:=HW.out.trans (hbel.mono HW.out.size);obtain ⟨b',o',hA,hb',hcl⟩:=(HR.out wr hbw).at1 hlt;simp only at hA;have hm:=List.getElem_mem hlt;have hmx : levL (shp l[k])≤maxL (l.map fun x=>levL (shp x)):=maxL_le (List.mem_map_of_mem (f:=fun x=>levL (shp x)) hm);have hlv:=HLV.out;have htk : l.take (k+1)=l.take k ++ [l[k]]:=List.take_succ_eq_append_getElem hlt;have hcall:=fun W' (hb : Below wr.heap.size wr W')=>HI.out l[k] hm W' (hbw.trans (hb.mono (by have:=HW.out.size; have:=hbel.size; omega))) Zo
    have hmk : maxL ((l.take k).map fun x=>levL (shp x))≤1000000:=by
     have : maxL ((l.take k).map fun x=>levL (shp x))≤maxL (l.map fun x=>levL (shp x)):=by
      (conv=>rhs; rw [← List.take_append_drop k l]);rw [List.map_append];exact maxL_left _ _
     omega
    (have hmn : maxL ((l.take (k+1)).map fun x=>levL (shp x))=max (maxL ((l.take k).map fun x=>levL (shp x))) (levL (shp l[k])):=by rw [htk,List.map_append]; exact maxL_snoc _ _);(have hxl : levL (shp l[k])≤1000000:=by omega);subst hA;generalize l[k]=x at *;obtain ⟨xo,xn,xu,xs,xA,xc,xl⟩:=x;obtain ⟨q0,q1,q2,q3,q4⟩:=Cells.c5 hcl;generalize levL (shp ⟨xo,xn,xu,xs,xA,xc,xl⟩)=lx at *;generalize maxL ((l.take k).map fun x=>levL (shp x))=mk at *;have HMN:=Zh hmn;have hca:=hcall (wr.alloc (.cells #[.int .i64 xo,.int .i64 xn,.int .i64 xu,.string xs,.slice xA xl.length xc] 26)) (Zz.alloc Zl _);simp only [PT.v] at hca;clear hcl hm hmx hlv htk hcall hmn HLV HI HR;go_wp2_with fail;refine hca.mono ?_;clear hca;rintro r w2 ⟨rfl,hb2⟩;have HB2 : Hid (Below W.heap.size W w2):=Zh (hbel.trans ((below_via hb2 ((Below.refl wr.heap.size wr).alloc Zl _)).mono hbel.size));clear hb2 q0 q1 q2 q3 q4;by_cases hc : (mk : Int)<(lx : Int)
    ·go_wp2_with fail;go_roundw
     case rel=>exact ⟨k+1,by omega,by go_num,by rw [HMN.out,Nat.max_eq_right Zo],HB2.out⟩
     case measure=>simp [intOf]; omega
    ·go_wp2_with fail;go_roundw
     case rel=>exact ⟨k+1,by omega,by go_num,by rw [HMN.out,Nat.max_eq_left Zo],HB2.out⟩
     case measure=>simp [intOf]; omega
   ·(obtain rfl : k=l.length:=by omega);have hml:=HLV.out;(have hwr : IntKind.i64.wrap (((maxL (l.map fun x=>levL (shp x)) : Nat) : Int)+1)=((maxL (l.map fun x=>levL (shp x))+1 : Nat) : Int):=by rw [IntKind.wrap_i64]; omega);rw [List.take_length];generalize hmk0 : maxL (l.map fun x=>levL (shp x))=mk at *;have HMK:=Zh hmk0;clear HI HR HLV hml hmk0;go_wp2_with fail;go_ret;exact ⟨ret_int (by rw [HMK.out]; omega),hbel⟩
def stopV (p e : Int) : Value:=.iface 102 (.agg #[.int .i64 p,.int .i64 e])
theorem caught_idle (p q : Value) (w : World) : Calls Tryz.prog 37 #[.nilIface,p,q] w fun r w'=>r = .returned (.bool false)∧Below w.heap.size w w':=by
 (have hta : ∀ (w : World),(Instr.typeAssert Value.nilIface 20 102 true).run Tryz.prog w = .ok (.tuple #[.agg #[.int .i64 0,.int .i64 0],.bool false]) w:=fun _=>by kernel_rfl);go_enter Tryz.func37,Tryz.ntmps37;go_wp2_with fail;go_ret;exact ⟨rfl,qbl⟩
theorem caught_stop (p q : Nat) (hpq : p≠q) (B : Nat) (hBp : B≤p) (hBq : B≤q) (ps en : Int) (w : World) (hB : B≤w.heap.size) (x y : Value) (hp : Blk w p 3 #[x]) (hq : Blk w q 33 #[y]) : Calls Tryz.prog 37 #[stopV ps en,.pointer (some ⟨p,0,none⟩),.pointer (some ⟨q,0,none⟩)] w fun r w'=>r = .returned (.bool true)∧Blk w' p 3 #[.int .i64 ps]∧Blk w' q 33 #[.int .i64 en]∧(∀ b,b<w.heap.size→b≠p→b≠q→w'.heap[b]? = w.heap[b]?)∧Below B w w':=by
 unfold stopV;(have hta : ∀ (w : World),(Instr.typeAssert (Value.iface 102 (.agg #[.int .i64 ps,.int .i64 en])) 20 102 true).run Tryz.prog w = .ok (.tuple #[.agg #[.int .i64 ps,.int .i64 en],.bool true]) w:=fun _=>by kernel_rfl);have HP:=Zh hp;have HQ:=Zh hq;have hpz:=hp.lt;have hqz:=hq.lt;clear hp hq;go_enter Tryz.func37,Tryz.ntmps37;go_wp2_with fail;have HX : Hid (Blk (w.alloc (.cells #[.int .i64 ps,.int .i64 en] 102)).drew w.heap.size 102 #[.int .i64 ps,.int .i64 en]):=Zh ((Blk.new _ _ _).drew);have HP2:=Zh ((HP.out.alloc (.cells #[.int .i64 ps,.int .i64 en] 102)).drew);have HQ2:=Zh ((HQ.out.alloc (.cells #[.int .i64 ps,.int .i64 en] 102)).drew);have HB2 : Hid (Below B w (w.alloc (.cells #[.int .i64 ps,.int .i64 en] 102)).drew):=Zh (((Below.refl B w).alloc hB _).drew);(have hnp : w.heap.size≠p:=by omega);have HKE : Hid (∀ b,b<w.heap.size→(w.alloc (.cells #[.int .i64 ps,.int .i64 en] 102)).drew.heap[b]? = w.heap[b]?):=Zh (((Below.refl w.heap.size w).alloc Zl _).drew.block);have hs0 : (w.alloc (.cells #[.int .i64 ps,.int .i64 en] 102)).cell? ⟨w.heap.size,0,none⟩=some (.int .i64 ps)∧(w.alloc (.cells #[.int .i64 ps,.int .i64 en] 102)).cell? ⟨w.heap.size,1,none⟩=some (.int .i64 en):=⟨(Blk.new _ _ _).cell 0,(Blk.new _ _ _).cell 1⟩;clear HP HQ;refine wp_region_T (fun W=>W.cell? ⟨w.heap.size,0,none⟩=some (.int .i64 ps)∧W.cell? ⟨w.heap.size,1,none⟩=some (.int .i64 en)) (fun i=>8≤i) Zy hs0 (fun hHeld=>?_);refine Zr 0 ?_;refine Zr 1 ?_;refine Zr 2 ?_;refine Zr 3 ?_;refine Zr 4 ?_;refine Zr 5 ?_;refine Zr 6 ?_;clear hHeld;clear hs0;generalize (w.alloc (.cells #[.int .i64 ps,.int .i64 en] 102)).drew=w1 at *;obtain ⟨p0,pf,pz⟩:=HP2.out.b1;obtain ⟨q0,qf,qz⟩:=HQ2.out.b1;refine Zn 7 ?_;go_wp2_with fail;have hs1:=And.intro ((HX.out.far (p:=⟨p,0,none⟩) hnp (.int .i64 ps)).cell 0) ((HX.out.far (p:=⟨p,0,none⟩) hnp (.int .i64 ps)).cell 1);refine Zi (hs1) ?_;clear hs1;refine Zn 8 ?_;go_wp2_with fail;(try simp only [QT]);(try (with_reducible refine And.intro (fun h=>by simp at h) ?_));refine Zn 9 ?_;go_wp2_with fail;(try simp only [QT]);(try (with_reducible refine And.intro (fun h=>by simp at h) ?_));refine Ze ?_;go_wp2_with fail;go_ret;refine ⟨rfl, ?_, ?_,fun b hb h1 h2=>?_,(HB2.out.setCell hBp _).setCell hBq _⟩
 ·exact (by simpa using ((HP2.out.set_ 0 (.int .i64 ps)).far hpq (.int .i64 en)))
 ·exact (by simpa using ((HQ2.out.far (Ne.symm hpq) (.int .i64 ps)).set_ 0 (.int .i64 en)))
 ·exact ((Below.heap_setCell _ _ _ b h2).trans (Below.heap_setCell _ _ _ b h1)).trans (HKE.out b hb)
def ZX : Array Value:=#[.int .i64 0,.int .i64 0,.int .i64 0,.string ⟨#[]⟩,.slice none 0 0]
theorem lexL_toks : ∀ (f at_ : Nat) (l : List UInt8),(lexL f at_ l).2.2=0→(lexL f at_ l).1.length≤f∧(∃ m x,(lexL f at_ l).1=m ++ [x]∧x.k=3)∧(∀ x,x ∈ (lexL f at_ l).1→x.t.size≤l.length)
 | 0,at_,l,h=>by simp [lexL] at h
 | f+1,at_,l,h=>by
  unfold lexL at h ⊢;simp only at h ⊢;split at h
  ·rename_i hm;rw [if_pos hm];exact ⟨by simp,⟨[],_,rfl,rfl⟩,fun x hx=>by rw [List.mem_singleton.1 hx]; exact Nat.zero_le _⟩
  ·rename_i hm;rw [if_neg hm];split at h
   ·rename_i hn;exact absurd h hn
   ·rename_i hn;rw [if_neg hn];split at h
    ·rename_i hr;exact absurd h hr
    ·rename_i hr;rw [if_neg hr];have hr0:=Classical.byContradiction fun hc=>hr hc;obtain ⟨h1,⟨m,x,h2,h3⟩,h4⟩:=lexL_toks f _ _ hr0;have hn0 : (nextL (l.drop (spanL blankC l))).2=0:=Classical.byContradiction fun hc=>hn hc
     have hsz : (nextL (l.drop (spanL blankC l))).1.t.size≤l.length:=by
      cases hd : l.drop (spanL blankC l) with
      | nil=>exact absurd hd hm
      | cons c r =>
       rw [hd] at hn0;have h5:=(nextL_size hn0).2;(have h6 : (l.drop (spanL blankC l)).length=(c :: r).length:=by rw [hd]);rw [List.length_drop] at h6;omega
     refine ⟨by simp only [List.length_cons]; omega,⟨_ :: m,x,by rw [h2]; rfl,h3⟩,fun y hy=>?_⟩;rcases List.mem_cons.1 hy with rfl | hy
     ·exact hsz
     ·have:=h4 y hy;rw [List.length_drop,List.length_drop] at this;omega
theorem lexT_toks {l : List UInt8} (h : (lexT l).2.2=0) : (lexT l).1.length≤4001∧(∃ m x,(lexT l).1=m ++ [x]∧x.k=3)∧(∀ x,x ∈ (lexT l).1→x.t.size≤4000):=by
 unfold lexT at h ⊢;split at h
 ·simp at h
 ·rename_i hl;rw [if_neg hl];obtain ⟨h1,h2,h3⟩:=lexL_toks _ _ _ h;exact ⟨by omega,h2,fun x hx=>by have:=h3 x hx; omega⟩
theorem tks_lex {l : List UInt8} (h : (lexT l).2.2=0) (A : Option Addr) (c : Nat) : TkS ⟨A,c,(lexT l).1⟩∧0<(lexT l).1.length:=by
 obtain ⟨h1,⟨m,x,h2,h3⟩,h4⟩:=lexT_toks h;refine ⟨⟨fun b hb hk=>?_,by simp only; omega,fun y hy=>by have:=h4 y hy; omega⟩,by rw [h2]; simp⟩;simp only at hb hk ⊢;have hlt : b<(lexT l).1.length:=Classical.byContradiction fun hc=>hb (List.getElem?_eq_none Zo);(have hl : (lexT l).1.length=m.length+1:=by rw [h2]; simp);by_cases hbm : b=m.length
 ·(have hx : (lexT l).1[b]? = some x:=by rw [h2,hbm]; simp);exact absurd h3 (hk x hx)
 ·omega
def OpnP (w w' : World) (x : List TK × Int × Int) (e : Ending) : Prop:=∃ gp A c,e = .returned (.tuple #[.pointer (some ⟨gp,0,none⟩),.int .i64 x.2.1,.int .i64 x.2.2])∧Blk w' gp 100 #[.slice A x.1.length c,.int .i64 0]∧Rd (fun b=>w.heap.size≤b∧b<gp) 4 TK.enc w' ⟨A,c,x.1⟩∧Below w.heap.size w w'∧w.heap.size≤gp
theorem syn_open (s : ByteArray) (w : World) (hs : s.size≤9223372036854775807) (hg : SigW w) : Calls Tryz.prog 35 #[.string s] w fun e w'=>OpnP w w' (lexT s.data.toList) e:=by
 have hc:=lex_Lex s w hs hg;obtain ⟨V,hV⟩ : ∃ V,lexT s.data.toList=V:=⟨_,rfl⟩;rw [hV] at hc ⊢;clear hV;go_enter Tryz.func35,Tryz.ntmps35;go_wp2_with fail;refine hc.mono ?_;clear hc;rintro e w1 ⟨A,c,rfl,ho,hb⟩;have HO:=Zh ho;have HB:=Zh hb;clear ho hb;obtain ⟨l,p,e⟩:=V;simp only at HO ⊢;go_wp2_with fail;have HR : Hid (OpnP w (w1.alloc (.cells #[.slice A l.length c,.int .i64 0] 100)) (l,p,e) (.returned (.tuple #[.pointer (some ⟨w1.heap.size,0,none⟩),.int .i64 p,.int .i64 e]))):=Zh ⟨w1.heap.size,A,c,rfl,Blk.new _ _ _,((HO.out.rd TK.enc_k).keep (fun b hb=>((Below.refl w1.heap.size w1).alloc Zl _).block b hb.2)).mono (fun b hb=>hb),HB.out.alloc HB.out.size _,HB.out.size⟩;refine bodyPost_ret (v:=.tuple #[.pointer (some ⟨w1.heap.size,0,none⟩),.int .i64 p,.int .i64 e]) ?_ rfl HR.out;simp [results,Tryz.results35,go_sem,]
def ParP (w w' : World) (x : PE) (r : Ending) : Prop:=Below w.heap.size w w'∧match x with
  | .ok e=>∃ t : PT,shp t=e∧PT.At (· < w'.heap.size) w' t∧r = .returned (.tuple #[t.v,.int .i64 0,.int .i64 0])
  | .no p en=>r = .returned (.tuple #[.agg #[.int .i64 0,.int .i64 0,.int .i64 0,.string ⟨#[]⟩,.slice none 0 0],.int .i64 p,.int .i64 en])
def XP (g : Nat) (w : World) (i : Nat) : Prop:=i=g∨(w.heap.size≤i∧i<w.heap.size+3)
structure PeT (g : Nat) (w W : World) : Prop where
  res : Blk W w.heap.size 26 #[.int .i64 0,.int .i64 0,.int .i64 0,.string ⟨#[]⟩,.slice none 0 0]
  pos : ∃ x,Blk W (w.heap.size+1) 3 #[x]
  err : ∃ x,Blk W (w.heap.size+1+1) 33 #[x]
  gr : w.grownBy W (some g)
  gq : w.heap.size+3≤g
theorem PeT.step {g : Nat} {w W W' : World} (s : PeT g w W) (hg : W.grownBy W' (some g)) : PeT g w W':=by
 obtain ⟨x,hx⟩:=s.pos;obtain ⟨y,hy⟩:=s.err;have:=s.gq;exact ⟨s.res.gm hg Zo,⟨x,hx.gm hg Zo⟩,⟨y,hy.gm hg Zo⟩,grown_trans s.gr hg,s.gq⟩
theorem PeT.start {g : Nat} {L : Sl TK} {w w1 : World} {a b : Value} (hres : Blk w1 w.heap.size 26 #[.int .i64 0,.int .i64 0,.int .i64 0,.string ⟨#[]⟩,.slice none 0 0]) (hpo : Blk w1 (w.heap.size+1) 3 #[a]) (her : Blk w1 (w.heap.size+1+1) 33 #[b]) (hbk : Blk w1 g 100 #[.slice L.A L.l.length L.c,.int .i64 0]) (hrd : Rd (fun b=>w.heap.size+3≤b∧b<g) 4 TK.enc w1 L) (hb : Below w.heap.size w w1) (hgp : w.heap.size+3≤g) (hl : 0<L.l.length) (u v : Value) : PeT g w ((w1.setCell ⟨w.heap.size+1,0,none⟩ u).setCell ⟨w.heap.size+1+1,0,none⟩ v)∧PrS g L 0 (XP g w) ((w1.setCell ⟨w.heap.size+1,0,none⟩ u).setCell ⟨w.heap.size+1+1,0,none⟩ v):=by
 have hB : Below w.heap.size w ((w1.setCell ⟨w.heap.size+1,0,none⟩ u).setCell ⟨w.heap.size+1+1,0,none⟩ v):=(hb.setCell (by simp only; omega) _).setCell (by simp only; omega) _;have hglt:=hbk.lt;refine ⟨⟨(hres.far (by simp only; omega) _).far (by simp only; omega) _,⟨u, ?_⟩,⟨v, ?_⟩,below_by hB _,hgp⟩,(hbk.far (by simp only; omega) _).far (by simp only; omega) _, ?_,hl,.inl rfl,fun c hc=>?_⟩
 ·exact (by simpa using ((hpo.set_ 0 u).far (p:=⟨w.heap.size+1+1,0,none⟩) (by simp only; omega) v))
 ·exact (by simpa using ((her.far (p:=⟨w.heap.size+1,0,none⟩) (by simp only; omega) u).set_ 0 v))
 ·refine (hrd.keep (fun c hc=>(Below.heap_setCell _ _ _ c (by simp only; omega)).trans (Below.heap_setCell _ _ _ c (by simp only; omega)))).mono (fun c hc=>⟨by simp; omega,fun hx=>?_⟩);rcases hx with hx | hx <;> omega
 ·rcases hc with rfl | hc
  ·simpa using hglt
  ·simp; omega
theorem PeT.fin {g : Nat} {w W : World} {o n u : Int} {s : ByteArray} {A : Option Addr} {c : Nat} {l : List PT} (h : PeT g w W) (ht : PT.At (Nm (XP g w) W) W ⟨o,n,u,s,A,c,l⟩) : Blk (((set5 W w.heap.size (.int .i64 o) (.int .i64 n) (.int .i64 u) (.string s) (.slice A l.length c)).setCell ⟨w.heap.size+1,0,none⟩ (.int .i64 0)).setCell ⟨w.heap.size+1+1,0,none⟩ (.int .i64 0)) w.heap.size 26 #[.int .i64 o,.int .i64 n,.int .i64 u,.string s,.slice A l.length c]∧Blk (((set5 W w.heap.size (.int .i64 o) (.int .i64 n) (.int .i64 u) (.string s) (.slice A l.length c)).setCell ⟨w.heap.size+1,0,none⟩ (.int .i64 0)).setCell ⟨w.heap.size+1+1,0,none⟩ (.int .i64 0)) (w.heap.size+1) 3 #[.int .i64 0]∧Blk (((set5 W w.heap.size (.int .i64 o) (.int .i64 n) (.int .i64 u) (.string s) (.slice A l.length c)).setCell ⟨w.heap.size+1,0,none⟩ (.int .i64 0)).setCell ⟨w.heap.size+1+1,0,none⟩ (.int .i64 0)) (w.heap.size+1+1) 33 #[.int .i64 0]∧PT.At (· < (((set5 W w.heap.size (.int .i64 o) (.int .i64 n) (.int .i64 u) (.string s) (.slice A l.length c)).setCell ⟨w.heap.size+1,0,none⟩ (.int .i64 0)).setCell ⟨w.heap.size+1+1,0,none⟩ (.int .i64 0)).heap.size) (((set5 W w.heap.size (.int .i64 o) (.int .i64 n) (.int .i64 u) (.string s) (.slice A l.length c)).setCell ⟨w.heap.size+1,0,none⟩ (.int .i64 0)).setCell ⟨w.heap.size+1+1,0,none⟩ (.int .i64 0)) ⟨o,n,u,s,A,c,l⟩∧Below w.heap.size w (((set5 W w.heap.size (.int .i64 o) (.int .i64 n) (.int .i64 u) (.string s) (.slice A l.length c)).setCell ⟨w.heap.size+1,0,none⟩ (.int .i64 0)).setCell ⟨w.heap.size+1+1,0,none⟩ (.int .i64 0)):=by
 have h0:=h.gq;have hB : Below w.heap.size w W:=grown_below h.gr Zl Zo;have hb5 : Below w.heap.size w (set5 W w.heap.size (.int .i64 o) (.int .i64 n) (.int .i64 u) (.string s) (.slice A l.length c)):=((((hB.setCell Zl _).setCell Zl _).setCell Zl _).setCell Zl _).setCell Zl _;obtain ⟨x,hx⟩:=h.pos;obtain ⟨y,hy⟩:=h.err
 have hr5 : Blk (set5 W w.heap.size (.int .i64 o) (.int .i64 n) (.int .i64 u) (.string s) (.slice A l.length c)) w.heap.size 26 #[.int .i64 o,.int .i64 n,.int .i64 u,.string s,.slice A l.length c]:=by
  simpa [set5] using ((((h.res.set_ 0 (.int .i64 o)).set_ 1 (.int .i64 n)).set_ 2 (.int .i64 u)).set_ 3 (.string s)).set_ 4 (.slice A l.length c)
 have hx5 : Blk (set5 W w.heap.size (.int .i64 o) (.int .i64 n) (.int .i64 u) (.string s) (.slice A l.length c)) (w.heap.size+1) 3 #[x]:=by
  (have hne : w.heap.size+1≠w.heap.size:=by omega);exact Blk.far (Blk.far (Blk.far (Blk.far (Blk.far hx hne _) hne _) hne _) hne _) hne _
 have hy5 : Blk (set5 W w.heap.size (.int .i64 o) (.int .i64 n) (.int .i64 u) (.string s) (.slice A l.length c)) (w.heap.size+1+1) 33 #[y]:=by
  (have hne : w.heap.size+1+1≠w.heap.size:=by omega);exact Blk.far (Blk.far (Blk.far (Blk.far (Blk.far hy hne _) hne _) hne _) hne _) hne _
 have ht5:=pt_set5 (a:=.int .i64 o) (b:=.int .i64 n) (c:=.int .i64 u) (d:=.string s) (e:=.slice A l.length c) ht (q:=w.heap.size) (.inr ⟨Nat.le_refl _,by omega⟩);generalize set5 W w.heap.size (.int .i64 o) (.int .i64 n) (.int .i64 u) (.string s) (.slice A l.length c)=S at *;refine ⟨(hr5.far (by simp only; omega) _).far (by simp only; omega) _, ?_, ?_,(pt_set (pt_set ht5 (.inr ⟨by omega,by omega⟩)) (.inr ⟨by omega,by omega⟩)).mono nm_lt,(hb5.setCell (by simp only; omega) _).setCell (by simp only; omega) _⟩
 ·exact (by simpa using ((hx5.set_ 0 (.int .i64 0)).far (p:=⟨w.heap.size+1+1,0,none⟩) (by simp only; omega) (.int .i64 0)))
 ·exact (by simpa using ((hy5.far (p:=⟨w.heap.size+1,0,none⟩) (by simp only; omega) (.int .i64 0)).set_ 0 (.int .i64 0)))
theorem PeT.par {w W : World} {p e : Int} {PV : PE} {v0 v1 v2 v3 v4 v5 v6 : Value} (hp : PV = .no p e) (h : Below w.heap.size w W) : ParP w (((set5 W w.heap.size v0 v1 v2 v3 v4).setCell ⟨w.heap.size+1,0,none⟩ v5).setCell ⟨w.heap.size+1+1,0,none⟩ v6) PV (.returned (.tuple #[.agg #[.int .i64 0,.int .i64 0,.int .i64 0,.string ⟨#[]⟩,.slice none 0 0],.int .i64 p,.int .i64 e])):=by
 rw [hp];exact ⟨((((((h.setCell Zl _).setCell Zl _).setCell Zl _).setCell Zl _).setCell Zl _).setCell (by simp only; omega) _).setCell (by simp only; omega) _,rfl⟩
theorem parse_lex {l : List UInt8} {V : List TK × Int × Int} (hV : lexT l=V) (h : V.2.2≠0) : parseE l = .no V.2.1 V.2.2:=by
 unfold parseE;rw [hV,if_pos h]
theorem parse_stop {l : List UInt8} {V : List TK × Int × Int} {p e : Int} (hV : lexT l=V) (h : V.2.2=0) (hp : pR (5 * V.1.length+5) (.exp 0) V.1 = .stop p e) : parseE l = .no p e:=by
 unfold parseE;rw [hV,if_neg (fun h'=>h' h),hp]
theorem parse_more {l : List UInt8} {V : List TK × Int × Int} {x : PS × Int} {b : Nat} {t : TK} (hV : lexT l=V) (h : V.2.2=0) (hp : pR (5 * V.1.length+5) (.exp 0) V.1 = .ok x (V.1.drop b)) (ht : V.1[b]? = some t) : parseE l=if t.k=3 then (if levL x.1≤12 then .ok x.1 else .no t.p 6) else .no t.p 12:=by
 unfold parseE;rw [hV,if_neg (fun h'=>h' h),hp];simp only;rw [drop_at ht,posT];simp only [decide_eq_true_eq]
end Go.Proofs.YtpbdjpfbhicmdaaGreatDoor
