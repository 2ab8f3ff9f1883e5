/- Walk: units.scoped. -/
import Derived.Test.YtcgocdhhneckhaaGreatDoorEnmxac
set_option linter.unusedSimpArgs false
set_option linter.unusedVariables false
set_option maxRecDepth 100000
set_option maxHeartbeats 6400000
namespace Go.Proofs.YtcgocdhhneckhaaGreatDoor
open Go.RowKit
theorem LT.enc_k : ∀ x : LT,x.enc.length=6 | ⟨_,⟨_,_,_,_,_,_,_⟩⟩=>rfl
theorem LT.enc_one : ∀ x : LT,∀ u ∈ x.enc,u.oneCell'=true
 | ⟨nm,⟨o,n,u,s,A,c,l⟩⟩,v,hv=>by
  simp only [LT.enc,PT.enc,List.mem_cons,List.not_mem_nil,or_false] at hv;rcases hv with rfl | rfl | rfl | rfl | rfl | rfl <;> rfl
theorem infoLet : Info Tryz.prog 50 (.agg #[.string ByteArray.empty,.int .i64 0,.int .i64 0,.int .i64 0,.string ByteArray.empty,.slice none 0 0]) 6 80:=info_mk Zy rfl
def uo (x : Int × Int) : Int:=if x.2=0 then x.1 else -1
def scN (L : List LT) : Nat→List Int
  | 0=>[]
  | k+1=>match L[k]? with
    | some x=>scN L k ++ [uo (unU (L.take k) (scN L k) 12 x.b)]
    | none=>scN L k
def scU (L : List LT) : List Int:=scN L L.length
theorem scN_succ {L : List LT} {k : Nat} {x : LT} (h : L[k]? = some x) : scN L (k+1)=scN L k ++ [uo (unU (L.take k) (scN L k) 12 x.b)]:=by
 (conv=>lhs; unfold scN);rw [h]
theorem scN_len (L : List LT) : ∀ k,k≤L.length→(scN L k).length=k
 | 0,_=>rfl
 | k+1,h=>by
  rw [scN_succ (List.getElem?_eq_getElem Zo),List.length_append,scN_len L k Zo];rfl
theorem rd_one6 {W : World} {g : Nat} {t : TypeId} {x : LT} (h : Blk W g t x.enc.toArray) : Rd (· < W.heap.size) 6 LT.enc W ⟨some ⟨g,0,none⟩,1,[x]⟩ :=
 ⟨Nat.le_refl _,by unfold maxLen; simp,fun h=>by simp at h,fun i y hy=>by
  have hi : i=0:=by
   rcases i with _ | i
   ·rfl
   ·simp at hy
  subst hi;(have hxy : x=y:=by simpa using hy);subst hxy
  exact ⟨g,0,rfl,h.lt,fun j u hu=>by
   rw [Nat.zero_mul,Nat.add_zero,Nat.zero_add,h.cell];simpa using hu⟩⟩
theorem own_apart {α β : Type} {B : Nat} {e e' : TypeId} {k k' : Nat} {enc : α→List Value} {enc' : β→List Value} {w : World} {s : Sl α} {s' : Sl β} (h : Own B e k enc w s) (h' : Own B e' k' enc' w s') (hne : e≠e') {g : Nat} (hg : s.A=some ⟨g,0,none⟩) : (Value.slice s'.A s'.l.length s'.c).ownBlock≠some g:=by
 intro hc;unfold Own at h h';rcases h.2 with ⟨hv,_⟩ | ⟨g1,cap,cur,hv,hb,hh,_⟩
 ·injection hv with h1; rw [hg] at h1; cases h1
 rcases h'.2 with ⟨hv',_⟩ | ⟨g2,cap',cur',hv',hb',hh',_⟩
 ·injection hv' with h1; rw [h1] at hc; simp [Value.ownBlock] at hc
 injection hv with h1; rw [hg] at h1; injection h1 with h1; injection h1 with h1;injection hv' with h2; rw [h2] at hc; simp only [Value.ownBlock] at hc; injection hc with hc;rw [← h1] at hh; rw [hc,hh] at hh';injection hh' with hh'; injection hh' with _ h3;exact hne h3
structure ScS (B : Nat) (w : World) (g0 g gl : Nat) (cs : Array Value) (x : LT) (ls : Sl LT) (us : Sl Int) (W : World) : Prop where
  own : Own B 50 6 LT.enc W ls
  ous : Own B 3 1 ienc W us
  b0 : Blk W g0 102 #[.slice none 0 0,.slice none 0 0]
  b1 : Blk W g 102 cs
  bx : Blk W gl 50 x.enc.toArray
  ap : ∀ h,ls.A=some ⟨h,0,none⟩→h≠gl
  lo : g0<B∧g<B
  ge : w.heap.size≤g0∧w.heap.size≤g∧B≤W.heap.size
  bel : Below w.heap.size w W
section
variable {B : Nat} {w : World} {g0 g gl : Nat} {cs : Array Value} {x : LT} {ls : Sl LT} {us : Sl Int} {W W' : World}
theorem ScS.drew (h : ScS B w g0 g gl cs x ls us W) : ScS B w g0 g gl cs x ls us W.drew:=⟨h.own,h.ous,h.b0,h.b1,h.bx,h.ap,h.lo,h.ge,h.bel.drew⟩
theorem ScS.alloc (h : ScS B w g0 g gl cs x ls us W) (o : Obj) : ScS B w g0 g gl cs x ls us (W.alloc o) :=
 ⟨h.own.alloc o,h.ous.alloc o,h.b0.alloc o,h.b1.alloc o,h.bx.alloc o,h.ap,h.lo,⟨h.ge.1,h.ge.2.1,by have:=h.ge.2.2; simp; omega⟩,h.bel.alloc (Nat.le_trans h.ge.1 (by have:=h.ge.2.2; have:=h.lo.1; omega)) o⟩
theorem ScS.cells (h : ScS B w g0 g gl #[.slice ls.A ls.l.length ls.c,.slice us.A us.l.length us.c] x ls us W) : True:=trivial
theorem own_addr {α : Type} {e : TypeId} {k : Nat} {enc : α→List Value} {s : Sl α} (h : Own B e k enc W s) : ∀ n,(Value.slice s.A s.l.length s.c).ownBlock=some n→s.A=some ⟨n,0,none⟩:=by
 intro n hn;rcases h.form with ⟨hA,_⟩ | ⟨g',hA,h1,h2,_⟩
 ·rw [hA] at hn; simp [Value.ownBlock] at hn
 ·rw [hA] at hn ⊢; simp only [Value.ownBlock] at hn; injection hn with hn; rw [hn]
theorem ScS.letApp (h : ScS B w g0 g gl cs x ls us W) {A : Option Addr} {c : Nat} (ho : Own B 50 6 LT.enc W' ⟨A,c,ls.l ++ [x]⟩) (hg : W.grownBy W' (Value.slice ls.A ls.l.length ls.c).ownBlock) (hA : A=ls.A∨A=some ⟨W.heap.size,0,none⟩) : ScS B w g0 g gl cs x ⟨A,c,ls.l ++ [x]⟩ us W':=by
 have hge:=own_row_ge h.own;have hge0:=h.ge;have hlo:=h.lo;(have hne : ∀ n,n<B→some n≠(Value.slice ls.A ls.l.length ls.c).ownBlock:=fun n hn hc=>by have:=hge n hc.symm; omega);refine ⟨ho, ?_,h.b0.grown hg (hne _ h.lo.1),h.b1.grown hg (hne _ h.lo.2),h.bx.grown hg (fun hc=>h.ap _ (own_addr h.own _ hc.symm) rfl), ?_,h.lo,⟨h.ge.1,h.ge.2.1,Nat.le_trans h.ge.2.2 hg.size⟩,h.bel.grown hg Zo (fun k hk=>by have:=hge k hk; omega)⟩
 ·refine h.ous.kept hg ?_;rcases hr : (Value.slice ls.A ls.l.length ls.c).ownBlock with _ | n
  ·rcases hu : (Value.slice us.A us.l.length us.c).ownBlock with _ | m
   ·exact .inl rfl
   ·exact .inr Zs
  ·exact .inr (own_apart h.own h.ous (by decide) (own_addr h.own n hr))
 ·intro k hk;have hb:=h.bx.lt;rcases hA with hA | hA
  ·exact h.ap k (hA ▸ hk)
  ·rw [hA] at hk; injection hk with hk; injection hk with hk; omega
theorem ScS.unitApp (h : ScS B w g0 g gl cs x ls us W) {A : Option Addr} {c : Nat} {u : Int} (ho : Own B 3 1 ienc W' ⟨A,c,us.l ++ [u]⟩) (hg : W.grownBy W' (Value.slice us.A us.l.length us.c).ownBlock) (hA : A=us.A∨A=some ⟨W.heap.size,0,none⟩) : ScS B w g0 g gl cs x ls ⟨A,c,us.l ++ [u]⟩ W':=by
 have hge:=own_row_ge h.ous;have hge0:=h.ge;have hlo:=h.lo;(have hne : ∀ n,n<B→some n≠(Value.slice us.A us.l.length us.c).ownBlock:=fun n hn hc=>by have:=hge n hc.symm; omega);refine ⟨?_,ho,h.b0.grown hg (hne _ h.lo.1),h.b1.grown hg (hne _ h.lo.2),h.bx.grown hg (fun hc=>?_),h.ap,h.lo,⟨h.ge.1,h.ge.2.1,Nat.le_trans h.ge.2.2 hg.size⟩,h.bel.grown hg Zo (fun k hk=>by have:=hge k hk; omega)⟩
 ·refine h.own.kept hg ?_;rcases hr : (Value.slice us.A us.l.length us.c).ownBlock with _ | n
  ·rcases hu : (Value.slice ls.A ls.l.length ls.c).ownBlock with _ | m
   ·exact .inl rfl
   ·exact .inr Zs
  ·exact .inr (own_apart h.ous h.own (by decide) (own_addr h.ous n hr))
 ·have hb:=h.bx;have ho2:=h.ous;unfold Own at ho2;rcases ho2.2 with ⟨hv,_⟩ | ⟨g2,cap,cur,hv,_,hh,_⟩
  ·injection hv with h1; rw [h1] at hc; simp [Value.ownBlock] at hc
  ·injection hv with h1; rw [h1] at hc; simp only [Value.ownBlock] at hc; injection hc with hc;unfold Blk at hb;rw [hc,hh] at hb;injection hb with hb; injection hb with _ h3;exact absurd h3 (by decide)
end
end Go.Proofs.YtcgocdhhneckhaaGreatDoor
