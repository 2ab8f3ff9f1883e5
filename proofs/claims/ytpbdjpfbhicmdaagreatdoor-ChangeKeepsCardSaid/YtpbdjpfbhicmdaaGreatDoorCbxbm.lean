/- Versions in memory; walks: isTime, IndexFunc, the reference's Few, Ints and Same. -/
import Derived.Test.YtpbdjpfbhicmdaaGreatDoorCbxad
import Derived.Test.YtpbdjpfbhicmdaaGreatDoorCbxbl
set_option linter.unusedSimpArgs false
set_option linter.unusedVariables false
set_option maxRecDepth 100000
set_option maxHeartbeats 6400000
namespace Go.Proofs.YtpbdjpfbhicmdaaGreatDoor
open Go.RowKit
structure VR where
  f : Int
  t : ByteArray
def VR.enc (x : VR) : List Value:=[.int .i64 x.f,.string x.t]
theorem VR.enc_k (x : VR) : x.enc.length=2:=rfl
theorem VR.enc_one (x : VR) : ∀ u ∈ x.enc,u.oneCell'=true:=by
  intro u hu
  simp only [VR.enc,List.mem_cons,List.not_mem_nil,or_false] at hu
  rcases hu with rfl | rfl <;> rfl
def VR.v (x : VR) : Value:=.agg #[.int .i64 x.f,.string x.t]
noncomputable instance : DecidableEq VR:=fun a b=>by
  by_cases h1 : a.f=b.f
  · by_cases h2 : a.t=b.t
    · exact isTrue (by cases a; cases b; simp_all)
    · exact isFalse (fun h=>h2 (by rw [h]))
  · exact isFalse (fun h=>h1 (by rw [h]))
def timeB (t : Int) : Bool:=decide (0≤t) && decide (t≤1048576)
theorem ch_isTime (t : Int) (w : World) : Calls Tryz.prog 29 #[.int .i64 t] w fun r w'=>r = .returned (.bool (timeB t))∧w=w':=by
  unfold timeB
  by_cases h1 : 0≤t
  · by_cases h2 : t≤1048576
    · have h1b : decide (t ≥ 0)=true:=decide_eq_true h1
      go_enter Tryz.func29,Tryz.ntmps29
      go_wp2_with fail
      go_ret
      exact ⟨ret_bool (by simp [h1,h2]),rfl⟩
    · go_enter Tryz.func29,Tryz.ntmps29
      go_wp2_with fail
      go_ret
      exact ⟨ret_bool (by simp [h1,h2]),rfl⟩
  · go_enter Tryz.func29,Tryz.ntmps29
    go_wp2_with fail
    go_ret
    exact ⟨ret_bool (by rw [decide_eq_false (by omega)]; rfl),rfl⟩
theorem ch_at1 (x : VR) (t : Int) (g : Nat) (w : World) (hg : w.cell? ⟨g,0,none⟩=some (.int .i64 t)) (hgl : g<w.heap.size) :
    Calls Tryz.prog 33 #[x.v,.pointer (some ⟨g,0,none⟩)] w fun r w'=>r = .returned (.bool (decide (t<x.f)))∧Below w.heap.size w w':=by
  obtain ⟨f,s⟩:=x
  have hne : g≠w.heap.size:=by omega
  simp only [VR.v]
  go_enter Tryz.func33,Tryz.ntmps33
  go_wp2_with fail
  go_ret
  exact ⟨ret_bool (by simp),qbl⟩
theorem idxV (l : Sl VR) (p : VR→Bool) (g : Nat) (w : World) (hr : Rd (· < w.heap.size) 2 VR.enc w l) (hp : ∀ W x,x ∈ l.l→Below w.heap.size w W→Calls Tryz.prog 33 (#[x.v] ++ #[.pointer (some ⟨g,0,none⟩)]) W fun e w'=>e = .returned (.bool (p x))∧Below W.heap.size W w') :
    Calls Tryz.prog 32 #[.slice l.A l.l.length l.c,.func (.func 33) #[] #[.pointer (some ⟨g,0,none⟩)]] w fun e w'=>e = .returned (.int .i64 (idxP p 0 l.l))∧Below w.heap.size w w':=by
  obtain ⟨A,c,l⟩:=l
  have hn:=hr.len
  simp only at hn
  have HR:=Lib.hid hr
  clear hr
  simp only
  simp only at hp
  go_enter Tryz.func32,Tryz.ntmps32
  go_wp2_with fail
  go_loopw [5,8] (fun u i wr=>∃ (k : Nat),k≤l.length∧i = .int .i64 k∧Below w.heap.size w wr∧Hid (idxP p 0 l=idxP p k (l.drop k))) (fun _ i _=>l.length - (intOf i).toNat)
  case atStart=>exact ⟨0,by omega,rfl,qbl,Lib.hid (by simp)⟩
  case round =>
    obtain ⟨k,hk,rfl,hbel,HG⟩:=hrel
    have hhe : w.heap.size≤wr.heap.size:=hbel.size
    by_cases hlt : k<l.length
    · obtain ⟨b,o,rfl,hb,hcl⟩:=HR.out.at1 hlt
      have hcl2:=hcl.keep (hbel.block b hb)
      have hd : l.drop k=l[k] :: l.drop (k+1):=List.drop_eq_getElem_cons hlt
      have hgo:=HG.out
      rw [hd] at hgo
      have HGO:=Lib.hid hgo
      have hcall:=hp wr l[k] (List.getElem_mem hlt) hbel
      clear hd hgo hcl HG hp
      generalize l[k]=x at *
      obtain ⟨bq,hb0⟩ : ∃ bq,p x=bq:=⟨_,rfl⟩
      rw [hb0] at hcall
      have HB0:=Lib.hid hb0
      clear hb0
      obtain ⟨xf,xs⟩:=x
      have gg:=hcl2.c2
      obtain ⟨g0,g1⟩:=gg
      simp only [VR.v] at hcall
      clear hcl2
      rcases bq
      · go_wp2_with fail
        refine hcall.mono ?_
        clear hcall
        rintro e w1 ⟨rfl,hb1⟩
        have hB1 : Below w.heap.size w w1:=qbv
        clear hb1
        go_wp2_with fail
        go_roundw
        case rel=>exact ⟨k+1,by omega,by go_num,hB1,Lib.hid (by rw [HGO.out,idxP,HB0.out]; rfl)⟩
        case measure=>simp [intOf]; omega
      · go_wp2_with fail
        refine hcall.mono ?_
        clear hcall
        rintro e w1 ⟨rfl,hb1⟩
        have hB1 : Below w.heap.size w w1:=qbv
        clear hb1
        go_wp2_with fail
        go_ret
        exact ⟨ret_int (by rw [HGO.out,idxP,HB0.out]; rfl),hB1⟩
    · have hkl : l.drop k=[]:=List.drop_eq_nil_of_le (by omega)
      have hgo:=HG.out
      rw [hkl] at hgo
      have HGO:=Lib.hid hgo
      clear hkl hgo HG
      go_wp2_with fail
      go_ret
      exact ⟨ret_int (by rw [HGO.out]; rfl),hbel⟩
theorem take_succ_eq {α : Type} {l m : List α} {k : Nat} {x : α} (h : l.take k=m.take k) (hl : l[k]? = some x) (hm : m[k]? = some x) : l.take (k+1)=m.take (k+1):=by
  rw [List.take_add_one,List.take_add_one,h,hl,hm]
theorem take_ne {α : Type} {l m : List α} {k : Nat} {x y : α} (hl : l[k]? = some x) (hm : m[k]? = some y) (hxy : x≠y) : l≠m:=by
  rintro rfl
  rw [hl] at hm
  injection hm with h
  exact hxy h
theorem ver_eqR (a a' : Int) (b b' : ByteArray) (w : World) : (Op.equalIn 10000 50 (.agg #[.int .i64 a,.string b]) (.agg #[.int .i64 a',.string b'])).run Tryz.prog w = .ok (decide ((⟨a,b⟩ : VR)=⟨a',b'⟩)) w:=by
  have h:=run_equalIn_agg (P:=Tryz.prog) w 9999 50 #[.int .i64 a,.string b] #[.int .i64 a',.string b'] (by kernel_rfl) (by kernel_rfl)
  refine h.trans ?_
  unfold Program.fieldsOf
  rw [Tryz.underlying50]
  by_cases h1 : a=a'
  · by_cases h2 : b=b'
    · simp [Op.eqFields,go_sem,h1,h2]
    · simp [Op.eqFields,go_sem,h1,h2]
      intro h
      have q:=bytes_beq b b'
      rw [h,decide_eq_false h2] at q
      simp at q
  · simp [Op.eqFields,go_sem,h1]
theorem ver_neq (a a' : Int) (b b' : ByteArray) (w : World) : (binOp .neq 50 (.agg #[.int .i64 a,.string b]) (.agg #[.int .i64 a',.string b'])).run Tryz.prog w = .ok (.bool (!decide ((⟨a,b⟩ : VR)=⟨a',b'⟩))) w:=by
  rw [run_neq_struct,ver_eqR]; rfl
theorem ver_guard (op : BinOp) (x y : Operand) (xs ys : Array Value) (w : World) : (eqGuard op 50 x y (.agg xs) (.agg ys)).run Tryz.prog w = .ok () w:=run_eqGuard_agg w op _ x y xs ys (by kernel_rfl)
theorem r35_Ints (a b : Sl Int) (w : World) (ha : Rd (· < w.heap.size) 1 ienc w a) (hb : Rd (· < w.heap.size) 1 ienc w b) : Calls Tryz.prog 17 #[.slice a.A a.l.length a.c,.slice b.A b.l.length b.c] w fun e w'=>e = .returned (.bool (decide (a.l=b.l)))∧Below w.heap.size w w':=by
  have hn:=ha.len
  have hn2:=hb.len
  have HA:=Lib.hid ha
  have HB:=Lib.hid hb
  clear ha hb
  obtain ⟨A,c,l⟩:=a
  obtain ⟨B,d,m⟩:=b
  simp only at hn hn2 ⊢
  by_cases hlen : l.length=m.length
  · go_enter Tryz.func17,Tryz.ntmps17
    go_wp2_with fail
    have HLN:=Lib.hid hlen
    clear hlen
    go_loopw [5] (fun i wr=>∃ (k : Nat),k≤l.length∧i = .int .i64 k∧l.take k=m.take k∧Below w.heap.size w wr) (fun i _=>l.length - (intOf i).toNat)
    case atStart=>exact ⟨0,by omega,rfl,rfl,qbl⟩
    case round =>
      obtain ⟨k,hk,rfl,htk,hbel⟩:=hrel
      by_cases hlt : k<l.length
      · have hlt2 : k<m.length:=by have:=HLN.out; omega
        obtain ⟨b,o,hA,hb,hcl⟩:=HA.out.at1 hlt
        obtain ⟨b',o',hB,hb',hcl'⟩:=HB.out.at1 hlt2
        have hc1:=hcl.keep (hbel.block b hb)
        have hc2:=hcl'.keep (hbel.block b' hb')
        simp only at hA hB hc1 hc2
        have HL:=Lib.hid (List.getElem?_eq_getElem hlt)
        have HM:=Lib.hid (List.getElem?_eq_getElem hlt2)
        clear hcl hcl'
        subst hA hB
        generalize l[k]=x at *
        generalize m[k]=y at *
        rw [Nat.mul_one] at hc1 hc2
        have g0:=Cells.c1 hc1
        have k0:=Cells.c1 hc2
        clear hc1 hc2
        have HTK:=Lib.hid htk
        clear htk
        by_cases hxy : x=y
        · subst hxy
          go_wp2_with fail
          refine wp_region_T (fun W=>W.cell? ⟨b,o+k,none⟩=some (.int .i64 x)∧W.cell? ⟨b',o'+k,none⟩=some (.int .i64 x)) (fun _=>false) (by kernel_rfl) ⟨g0,k0⟩ (fun hHeld=>?_)
          refine qtq 0 ?_
          simp only [qsa,qsb,qsc]
          refine qtq 1 ?_
          simp only [qsa,qsb,qsc]
          refine qtq 2 ?_
          simp only [qsa,qsb,qsc]
          refine qtq 3 ?_
          simp only [qsa,qsb,qsc]
          refine qtq 4 ?_
          simp only [qsa,qsb,qsc]
          refine qtq 5 ?_
          simp only [qsa,qsb,qsc]
          refine qtq 6 ?_
          simp only [qsa,qsb,qsc]
          refine qtq 7 ?_
          simp only [qsa,qsb,qsc]
          clear hHeld
          have hHeld:=And.intro g0 k0
          refine wpAnyT_take2 (i:=8) (v:=.bool false) rfl rfl (by kernel_rfl) (by kernel_rfl) (by kernel_rfl) (by kernel_rfl) (fun _ _ _ h=>h) (Or.inl ⟨by rfl, ?_⟩) (by first | assumption | trivial) ?_
          · (intro w hSw; (try dsimp only at hSw); go_simp) <;> (first | (with_reducible rfl) | assumption | (simp; done) | (simp [*]; done) | (simp; omega))
          simp only [qsa,qsb,qsc]
          refine wpAnyT_done (by kernel_rfl) ?_ _
          clear hHeld
          go_wp2_with fail
          go_roundw
          case rel=>exact ⟨k+1,by omega,by go_num,take_succ_eq HTK.out HL.out HM.out,Below.drew hbel⟩
          case measure=>simp [intOf]; omega
        · have HNE:=Lib.hid (take_ne HL.out HM.out hxy)
          have hxb : (x == y)=false:=by simpa using hxy
          go_wp2_with fail
          refine wp_region_T (fun W=>W.cell? ⟨b,o+k,none⟩=some (.int .i64 x)∧W.cell? ⟨b',o'+k,none⟩=some (.int .i64 y)) (fun _=>false) (by kernel_rfl) ⟨g0,k0⟩ (fun hHeld=>?_)
          refine qtq 0 ?_
          simp only [qsa,qsb,qsc]
          refine qtq 1 ?_
          simp only [qsa,qsb,qsc]
          refine qtq 2 ?_
          simp only [qsa,qsb,qsc]
          refine qtq 3 ?_
          simp only [qsa,qsb,qsc]
          refine qtq 4 ?_
          simp only [qsa,qsb,qsc]
          refine qtq 5 ?_
          simp only [qsa,qsb,qsc]
          refine qtq 6 ?_
          simp only [qsa,qsb,qsc]
          refine qtq 7 ?_
          simp only [qsa,qsb,qsc]
          clear hHeld
          have hHeld:=And.intro g0 k0
          refine wpAnyT_take2 (i:=8) (v:=.bool true) rfl rfl (by kernel_rfl) (by kernel_rfl) (by kernel_rfl) (by kernel_rfl) (fun _ _ _ h=>h) (Or.inl ⟨by rfl, ?_⟩) (by first | assumption | trivial) ?_
          · (intro w hSw; (try dsimp only at hSw); go_simp) <;> (first | (with_reducible rfl) | assumption | (simp; done) | (simp [*]; done) | (simp; omega))
          simp only [qsa,qsb,qsc]
          refine wpAnyT_done (by kernel_rfl) ?_ _
          clear hHeld
          go_wp2_with fail
          go_ret
          exact ⟨ret_bool (decide_eq_false HNE.out).symm,Below.drew hbel⟩
      · have hlt3 : ¬ k<m.length:=by have:=HLN.out; omega
        have HEQ : Hid (l=m):=Lib.hid (by
          have:=HLN.out
          rw [List.take_of_length_le (by omega),List.take_of_length_le (by omega)] at htk
          exact htk)
        go_wp2_with fail
        go_ret
        exact ⟨ret_bool (decide_eq_true HEQ.out).symm,hbel⟩
  · have HNE : Hid (l≠m):=Lib.hid (fun e=>hlen (by rw [e]))
    have hln : ((l.length : Int) == (m.length : Int))=false:=by
      have : (l.length : Int)≠m.length:=by omega
      simpa using this
    go_enter Tryz.func17,Tryz.ntmps17
    go_wp2_with fail
    go_ret
    exact ⟨ret_bool (decide_eq_false HNE.out).symm,qbl⟩
theorem r35_Same (a b : Sl VR) (w : World) (ha : Rd (· < w.heap.size) 2 VR.enc w a) (hb : Rd (· < w.heap.size) 2 VR.enc w b) : Calls Tryz.prog 12 #[.slice a.A a.l.length a.c,.slice b.A b.l.length b.c] w fun e w'=>e = .returned (.bool (decide (a.l=b.l)))∧Below w.heap.size w w':=by
  have hn:=ha.len
  have hn2:=hb.len
  have HA:=Lib.hid ha
  have HB:=Lib.hid hb
  clear ha hb
  obtain ⟨A,c,l⟩:=a
  obtain ⟨B,d,m⟩:=b
  simp only at hn hn2 ⊢
  have qG:=ver_guard
  by_cases hlen : l.length=m.length
  · go_enter Tryz.func12,Tryz.ntmps12
    go_wp2_with fail
    have HLN:=Lib.hid hlen
    clear hlen
    go_loopw [5] (fun i wr=>∃ (k : Nat),k≤l.length∧i = .int .i64 k∧l.take k=m.take k∧Below w.heap.size w wr) (fun i _=>l.length - (intOf i).toNat)
    case atStart=>exact ⟨0,by omega,rfl,rfl,qbl⟩
    case round =>
      obtain ⟨k,hk,rfl,htk,hbel⟩:=hrel
      by_cases hlt : k<l.length
      · have hlt2 : k<m.length:=by have:=HLN.out; omega
        obtain ⟨b,o,hA,hb,hcl⟩:=HA.out.at1 hlt
        obtain ⟨b',o',hB,hb',hcl'⟩:=HB.out.at1 hlt2
        have hc1:=hcl.keep (hbel.block b hb)
        have hc2:=hcl'.keep (hbel.block b' hb')
        simp only at hA hB hc1 hc2
        have HL:=Lib.hid (List.getElem?_eq_getElem hlt)
        have HM:=Lib.hid (List.getElem?_eq_getElem hlt2)
        clear hcl hcl'
        subst hA hB
        generalize l[k]=x at *
        generalize m[k]=y at *
        obtain ⟨xf,xt⟩:=x
        obtain ⟨yf,yt⟩:=y
        obtain ⟨g0,g1⟩:=Cells.c2 hc1
        obtain ⟨k0,k1⟩:=Cells.c2 hc2
        clear hc1 hc2
        have HTK:=Lib.hid htk
        clear htk
        by_cases hxy : (⟨xf,xt⟩ : VR)=⟨yf,yt⟩
        · injection hxy with e1 e2
          subst e1 e2
          have qN:=fun w=>ver_neq xf xf xt xt w
          rw [decide_eq_true rfl] at qN
          go_wp2_with fail
          refine wp_region_T (fun W=>W.cell? ⟨b,o+k * 2,none⟩=some (.int .i64 xf)∧W.cell? ⟨b,o+k * 2+1,none⟩=some (.string xt)∧W.cell? ⟨b',o'+k * 2,none⟩=some (.int .i64 xf)∧W.cell? ⟨b',o'+k * 2+1,none⟩=some (.string xt)) (fun _=>false) (by kernel_rfl) ⟨g0,g1,k0,k1⟩ (fun hHeld=>?_)
          refine qtq 0 ?_
          simp only [qsa,qsb,qsc]
          refine qtq 1 ?_
          simp only [qsa,qsb,qsc]
          refine qtq 2 ?_
          simp only [qsa,qsb,qsc]
          refine qtq 3 ?_
          simp only [qsa,qsb,qsc]
          refine qtq 4 ?_
          simp only [qsa,qsb,qsc]
          refine qtq 5 ?_
          simp only [qsa,qsb,qsc]
          refine qtq 6 ?_
          simp only [qsa,qsb,qsc]
          refine qtq 7 ?_
          simp only [qsa,qsb,qsc]
          clear hHeld
          have hHeld:=And.intro g0 (And.intro g1 (And.intro k0 k1))
          refine wpAnyT_take2 (i:=8) (v:=.bool false) rfl rfl (by kernel_rfl) (by kernel_rfl) (by kernel_rfl) (by kernel_rfl) (fun _ _ _ h=>h) (Or.inl ⟨by rfl, ?_⟩) (by first | assumption | trivial) ?_
          · (intro w hSw; (try dsimp only at hSw); go_simp) <;> (first | (with_reducible rfl) | assumption | (simp; done) | (simp [*]; done) | (simp; omega))
          simp only [qsa,qsb,qsc]
          refine wpAnyT_done (by kernel_rfl) ?_ _
          clear hHeld
          go_wp2_with fail
          go_roundw
          case rel=>exact ⟨k+1,by omega,by go_num,take_succ_eq HTK.out HL.out HM.out,Below.drew hbel⟩
          case measure=>simp [intOf]; omega
        · have HNE:=Lib.hid (take_ne HL.out HM.out hxy)
          have qN:=fun w=>ver_neq xf yf xt yt w
          rw [decide_eq_false hxy] at qN
          go_wp2_with fail
          refine wp_region_T (fun W=>W.cell? ⟨b,o+k * 2,none⟩=some (.int .i64 xf)∧W.cell? ⟨b,o+k * 2+1,none⟩=some (.string xt)∧W.cell? ⟨b',o'+k * 2,none⟩=some (.int .i64 yf)∧W.cell? ⟨b',o'+k * 2+1,none⟩=some (.string yt)) (fun _=>false) (by kernel_rfl) ⟨g0,g1,k0,k1⟩ (fun hHeld=>?_)
          refine qtq 0 ?_
          simp only [qsa,qsb,qsc]
          refine qtq 1 ?_
          simp only [qsa,qsb,qsc]
          refine qtq 2 ?_
          simp only [qsa,qsb,qsc]
          refine qtq 3 ?_
          simp only [qsa,qsb,qsc]
          refine qtq 4 ?_
          simp only [qsa,qsb,qsc]
          refine qtq 5 ?_
          simp only [qsa,qsb,qsc]
          refine qtq 6 ?_
          simp only [qsa,qsb,qsc]
          refine qtq 7 ?_
          simp only [qsa,qsb,qsc]
          clear hHeld
          have hHeld:=And.intro g0 (And.intro g1 (And.intro k0 k1))
          refine wpAnyT_take2 (i:=8) (v:=.bool true) rfl rfl (by kernel_rfl) (by kernel_rfl) (by kernel_rfl) (by kernel_rfl) (fun _ _ _ h=>h) (Or.inl ⟨by rfl, ?_⟩) (by first | assumption | trivial) ?_
          · (intro w hSw; (try dsimp only at hSw); go_simp) <;> (first | (with_reducible rfl) | assumption | (simp; done) | (simp [*]; done) | (simp; omega))
          simp only [qsa,qsb,qsc]
          refine wpAnyT_done (by kernel_rfl) ?_ _
          clear hHeld
          go_wp2_with fail
          go_ret
          exact ⟨ret_bool (decide_eq_false HNE.out).symm,Below.drew hbel⟩
      · have hlt3 : ¬ k<m.length:=by have:=HLN.out; omega
        have HEQ : Hid (l=m):=Lib.hid (by
          have:=HLN.out
          rw [List.take_of_length_le (by omega),List.take_of_length_le (by omega)] at htk
          exact htk)
        go_wp2_with fail
        go_ret
        exact ⟨ret_bool (decide_eq_true HEQ.out).symm,hbel⟩
  · have HNE : Hid (l≠m):=Lib.hid (fun e=>hlen (by rw [e]))
    have hln : ((l.length : Int) == (m.length : Int))=false:=by
      have : (l.length : Int)≠m.length:=by omega
      simpa using this
    go_enter Tryz.func12,Tryz.ntmps12
    go_wp2_with fail
    go_ret
    exact ⟨ret_bool (decide_eq_false HNE.out).symm,qbl⟩
def FewV (l : List VR) (w w' : World) (r : Ending) : Prop:=∃ b,r = .returned (.bool b)∧(b=true→l.length≤4∧∀ x,x ∈ l→x.t.size≤500)∧Below w.heap.size w w'
theorem r35_Few (l : Sl VR) (w : World) (hr : Rd (· < w.heap.size) 2 VR.enc w l) (hs : ∀ x,x ∈ l.l→x.t.size≤9223372036854775807) : Calls Tryz.prog 8 #[.slice l.A l.l.length l.c,.int .i64 4] w fun r w'=>FewV l.l w w' r:=by
  obtain ⟨A,c,l⟩:=l
  have hn:=hr.len
  simp only at hn hs
  have HR:=Lib.hid hr
  have HSZ:=Lib.hid hs
  clear hr hs
  simp only
  go_enter Tryz.func8,Tryz.ntmps8
  go_wp2_with fail
  go_loopw [5] (fun i wr=>∃ (k : Nat),k≤l.length∧i = .int .i64 k∧Below w.heap.size w wr∧Hid (∀ j x,j<k→l[j]? = some x→x.t.size≤500)) (fun i _=>l.length - (intOf i).toNat)
  case atStart=>exact ⟨0,by omega,rfl,qbl,Lib.hid (fun j x hj=>absurd hj (by omega))⟩
  case round =>
    obtain ⟨k,hk,rfl,hbel,HG⟩:=hrel
    by_cases hlt : k<l.length
    · by_cases h4 : k≤4
      · obtain ⟨b,o,rfl,hb,hcl⟩:=HR.out.at1 hlt
        have hcl2:=hcl.keep (hbel.block b hb)
        have hsx:=HSZ.out l[k] (List.getElem_mem hlt)
        have HLK:=Lib.hid (List.getElem?_eq_getElem hlt)
        clear hcl
        generalize l[k]=x at *
        obtain ⟨xf,xt⟩:=x
        obtain ⟨g0,g1⟩:=Cells.c2 hcl2
        have HBE:=Lib.hid hbel
        clear hcl2 hbel
        simp only at hsx
        by_cases h5 : 500<xt.size
        · have h5i : (500 : Int)<(xt.size : Int):=by omega
          go_wp2_with fail
          go_ret
          exact ⟨false,rfl,(fun h=>by cases h),HBE.out⟩
        · have h5i : ¬ (500 : Int)<(xt.size : Int):=by omega
          have HS5 : Hid (xt.size≤500):=Lib.hid (by omega)
          clear h5
          go_wp2_with fail
          go_roundw
          case rel=>exact ⟨k+1,by omega,by go_num,HBE.out,Lib.hid (fun j y hj hy=>by
            rcases Nat.lt_succ_iff_lt_or_eq.1 hj with h | rfl
            · exact HG.out j y h hy
            · rw [HLK.out] at hy
              injection hy with hy
              rw [← hy]; exact HS5.out)⟩
          case measure=>simp [intOf]; omega
      · have h4i : ¬ (k : Int)≤4:=by omega
        have h5i : ¬ (l.length : Int)≤4:=by omega
        go_wp2_with fail
        go_ret
        exact ⟨false,rfl,(fun h=>by cases h),hbel⟩
    · have hke : k=l.length:=by omega
      have HF : Hid (∀ x,x ∈ l→x.t.size≤500):=Lib.hid (fun x hx=>by
        obtain ⟨j,hj⟩:=List.getElem?_of_mem hx
        exact HG.out j x (by rw [hke]; exact (List.getElem?_eq_some_iff.1 hj).1) hj)
      clear hke HG
      by_cases h4 : l.length≤4
      · have h4i : (l.length : Int)≤4:=by omega
        go_wp2_with fail
        go_ret
        exact ⟨true,rfl,fun _=>⟨h4,HF.out⟩,hbel⟩
      · have h4i : ¬ (l.length : Int)≤4:=by omega
        go_wp2_with fail
        go_ret
        exact ⟨false,rfl,(fun h=>by cases h),hbel⟩
theorem letsT_len (f : Nat) : ∀ (k : Nat) (l : List (ByteArray × PS)) (r : List TK) (v : List (ByteArray × PS)) (r' : List TK),l.length≤20→letsT f k l r = .ok v r'→v.length≤20
  | 0,_,_,_,_,_,h=>by simp [letsT] at h
  | k+1,l,r,v,r',hl,h=>by
    rw [letsT] at h
    by_cases h1 : isT ⟨#[108,101,116]⟩ r=true
    · rw [if_pos h1] at h
      by_cases h2 : l.length<20
      · rw [if_pos h2] at h
        obtain ⟨s,r1,_,h⟩:=bind_ok h
        obtain ⟨_,r2,_,h⟩:=bind_ok h
        obtain ⟨e,r3,_,h⟩:=bind_ok h
        exact letsT_len f k _ _ _ _ (by simp only [List.length_append,List.length_cons,List.length_nil]; omega) h
      · rw [if_neg h2] at h; cases h
    · rw [if_neg h1] at h
      injection h with h3 h4
      rw [← h3]; exact hl
theorem byl4_lets {nm : ByteArray} {ls : List (ByteArray × PS)} {es : List PS} {r r' : List TK} {b : BS} (h : byl4 nm ls es r = .ok b r') : b.lets=ls:=by
  unfold byl4 at h
  obtain ⟨_,_,_,h⟩:=bind_ok h
  obtain ⟨_,_,_,h⟩:=bind_ok h
  obtain ⟨_,_,_,h⟩:=bind_ok h
  obtain ⟨_,_,_,h⟩:=bind_ok h
  injection h with h1
  rw [← h1]
theorem bylN_lets {f : Nat} {nm : ByteArray} {ls : List (ByteArray × PS)} : ∀ (n : Nat) {es : List PS} {r r' : List TK} {b : BS},bylN f nm ls n es r = .ok b r'→b.lets=ls
  | 0,_,_,_,_,h=>byl4_lets h
  | n+1,es,r,r',b,h=>by
    have h : (secT f (wordN es.length) r).bind (fun e r=>bylN f nm ls n (es ++ [e]) r) = .ok b r':=h
    obtain ⟨_,_,_,h⟩:=bind_ok h
    exact bylN_lets n h
theorem bylT_len {f : Nat} {r r' : List TK} {b : BS} (h : bylT f r = .ok b r') : b.lets.length≤20:=by
  rw [bylT_eq] at h
  obtain ⟨_,_,_,h⟩:=bind_ok h
  obtain ⟨_,_,_,h⟩:=bind_ok h
  obtain ⟨_,_,_,h⟩:=bind_ok h
  obtain ⟨l,_,h1,h⟩:=bind_ok h
  rw [bylN_lets 4 h]
  exact letsT_len f 21 [] _ _ _ (by simp) h1
theorem parsB_len {l : List UInt8} {b : BS} {p e : Int} (h : parsB l=(some b,p,e)) : b.lets.length≤20∧p=0∧e=0:=by
  unfold parsB at h
  split at h
  · cases h
  · split at h
    · rename_i x hx
      injection h with h1 h2
      injection h1 with h1
      injection h2 with h2 h3
      exact ⟨by rw [← h1]; exact bylT_len hx,h2.symm,h3.symm⟩
    · cases h
def ChP (w w' : World) (x : BS × Int) (r : Ending) : Prop:=Below w.heap.size w w'∧∃ b : Byl,shB b=x.1∧Byl.At (Nw w.heap.size w') w' b∧r = .returned (.tuple #[b.v,.int .i64 x.2])
def bylZ : Byl:=⟨⟨#[]⟩,⟨none,0,[]⟩,ptZ,ptZ,ptZ,ptZ,0,0,0⟩
theorem bylZ_sh : shB bylZ=bsZ:=by
  have h : shp ptZ = .mk 0 0 0 empS []:=by unfold ptZ; rw [shp_mk]; rfl
  unfold shB bylZ bsZ
  simp only [h]
  rfl
theorem ptZ_at (F : Nat→Prop) (w : World) : PT.At F w ptZ:=.mk (by decide) (Rd.nil _ _ _ _) (fun x hx=>by cases hx)
theorem bylZ_at (F : Nat→Prop) (w : World) : Byl.At F w bylZ:=⟨by decide,⟨Rd.nil _ _ _ _,fun x hx=>by cases hx⟩,ptZ_at F w,ptZ_at F w,ptZ_at F w,ptZ_at F w⟩
theorem ParB.one {w w' : World} {x : Option BS × Int × Int} {r : Ending} (h : ParB w w' x r) : Below w.heap.size w w'∧∃ b : Byl,shB b=x.1.getD bsZ∧Byl.At (Nw w.heap.size w') w' b∧r = .returned (.tuple #[b.v,.int .i64 x.2.1,.int .i64 x.2.2]):=by
  obtain ⟨o,p,e⟩:=x
  rcases o with _ | s
  · exact ⟨h.1,bylZ,bylZ_sh,bylZ_at _ _,h.2⟩
  · exact h
theorem parC_is (l : List UInt8) : parC l=((parsB l).1.getD bsZ,if (parsB l).2.2=0 then chkS ((parsB l).1.getD bsZ) else (parsB l).2.2):=by
  unfold parC
  rcases h : parsB l with ⟨o,p,e⟩
  rcases o with _ | b
  · rfl
  · obtain ⟨_,_,rfl⟩:=parsB_len h
    rfl
theorem parsB_lets (l : List UInt8) : ((parsB l).1.getD bsZ).lets.length≤20:=by
  rcases h : parsB l with ⟨o,p,e⟩
  rcases o with _ | b
  · exact Nat.zero_le _
  · exact (parsB_len h).1
theorem cp_results (tmps : Array Value) (w : World) (g : Nat) (cs : Array Value) (x : Value) (hc : (Tryz.prog.info? 28).map (·.size)=some cs.size) (h2 : tmps.getD 2 undef = .pointer (some ⟨g,0,none⟩)) (h3 : tmps.getD 3 undef=x)
    (hg : Blk w g 28 cs) : (results Tryz.f30 tmps).run Tryz.prog w = .ok (.tuple #[.agg cs,x]) w:=by
  have h2' : tmps[2]?.getD undef = .pointer (some ⟨g,0,none⟩):=by simpa using h2
  have h3' : tmps[3]?.getD undef=x:=by simpa using h3
  simp only [results,Tryz.results30,List.map_toArray,List.map_cons,List.map_nil]
  simp [h2',h3',asAddr,run_loadVar_row w g 28 28 cs (0,0) _ hg Tryz.underlying28 rfl hc]
theorem row_below {W : World} {B g : Nat} {cs : Array Value} (h : B≤g) : Below B W (W.setRow g cs):=⟨rfl,rfl,rfl,by simp [World.setRow],fun k hk=>setRow_other _ _ k _ (by omega)⟩
theorem ch_parse (s : ByteArray) (w : World) (hs : s.size≤9223372036854775807) (hg : SigW w) : Calls Tryz.prog 30 #[.string s] w fun r w'=>ChP w w' (parC s.data.toList) r:=by
  have HB0 : Hid (Below w.heap.size w (w.alloc (.cells #[.string (⟨#[]⟩ : ByteArray),.slice none 0 0,.int .i64 0,.int .i64 0,.int .i64 0,.string (⟨#[]⟩ : ByteArray),.slice none 0 0,.int .i64 0,.int .i64 0,.int .i64 0,.string (⟨#[]⟩ : ByteArray),.slice none 0 0,.int .i64 0,.int .i64 0,.int .i64 0,.string (⟨#[]⟩ : ByteArray),.slice none 0 0,.int .i64 0,.int .i64 0,.int .i64 0,.string (⟨#[]⟩ : ByteArray),.slice none 0 0,.int .i64 0,.int .i64 0,.int .i64 0] 28))):=Lib.hid qbl
  have HR0 : Hid (Blk (w.alloc (.cells #[.string (⟨#[]⟩ : ByteArray),.slice none 0 0,.int .i64 0,.int .i64 0,.int .i64 0,.string (⟨#[]⟩ : ByteArray),.slice none 0 0,.int .i64 0,.int .i64 0,.int .i64 0,.string (⟨#[]⟩ : ByteArray),.slice none 0 0,.int .i64 0,.int .i64 0,.int .i64 0,.string (⟨#[]⟩ : ByteArray),.slice none 0 0,.int .i64 0,.int .i64 0,.int .i64 0,.string (⟨#[]⟩ : ByteArray),.slice none 0 0,.int .i64 0,.int .i64 0,.int .i64 0] 28)) w.heap.size 28 #[.string (⟨#[]⟩ : ByteArray),.slice none 0 0,.int .i64 0,.int .i64 0,.int .i64 0,.string (⟨#[]⟩ : ByteArray),.slice none 0 0,.int .i64 0,.int .i64 0,.int .i64 0,.string (⟨#[]⟩ : ByteArray),.slice none 0 0,.int .i64 0,.int .i64 0,.int .i64 0,.string (⟨#[]⟩ : ByteArray),.slice none 0 0,.int .i64 0,.int .i64 0,.int .i64 0,.string (⟨#[]⟩ : ByteArray),.slice none 0 0,.int .i64 0,.int .i64 0,.int .i64 0]):=Lib.hid (Blk.new _ _ _)
  have hc:=syn_Parse s _ hs (hg.later HB0.out)
  have HPL:=Lib.hid (parsB_lets s.data.toList)
  obtain ⟨PV,hPV⟩ : ∃ v,parC s.data.toList=v:=⟨_,rfl⟩
  rw [hPV]
  have HPV:=Lib.hid (hPV.symm.trans (parC_is _))
  clear hPV hg
  obtain ⟨V,hV⟩ : ∃ v,parsB s.data.toList=v:=⟨_,rfl⟩
  rw [hV] at hc HPV HPL
  clear hV
  obtain ⟨V1,pp,ee⟩:=V
  have hz0 : (w.alloc (.cells #[.string (⟨#[]⟩ : ByteArray),.slice none 0 0,.int .i64 0,.int .i64 0,.int .i64 0,.string (⟨#[]⟩ : ByteArray),.slice none 0 0,.int .i64 0,.int .i64 0,.int .i64 0,.string (⟨#[]⟩ : ByteArray),.slice none 0 0,.int .i64 0,.int .i64 0,.int .i64 0,.string (⟨#[]⟩ : ByteArray),.slice none 0 0,.int .i64 0,.int .i64 0,.int .i64 0,.string (⟨#[]⟩ : ByteArray),.slice none 0 0,.int .i64 0,.int .i64 0,.int .i64 0] 28)).heap.size=w.heap.size+1:=by simp
  go_enter Tryz.func30,Tryz.ntmps30
  go_wp2_with fail
  refine hc.mono ?_
  clear hc
  rintro r w1 hc
  obtain ⟨hb1,⟨nm,ls,ea,eb,ec,ed,q,sh,ch⟩,hsh,hat,rfl⟩:=hc.one
  have HB1:=Lib.hid (HB0.out.trans (hb1.mono HB0.out.size))
  have HR1:=Lib.hid (HR0.out.later hb1)
  have HSH:=Lib.hid hsh
  have HAT : Hid (Byl.At (Nw (w.heap.size+1) w1) w1 ⟨nm,ls,ea,eb,ec,ed,q,sh,ch⟩):=Lib.hid (by rw [← hz0]; exact hat)
  clear hc hb1 hsh hat HB0 HR0 hz0
  rw [byl_v]
  simp only
  go_wp2_with (refine wpList_store_row rfl 28 (.tmp 4) (.tmp 10) rfl w1.heap.size (byE nm (slV ls) ea eb ec ed q sh ch) rfl rfl 28 #[.string (⟨#[]⟩ : ByteArray),.slice none 0 0,.int .i64 0,.int .i64 0,.int .i64 0,.string (⟨#[]⟩ : ByteArray),.slice none 0 0,.int .i64 0,.int .i64 0,.int .i64 0,.string (⟨#[]⟩ : ByteArray),.slice none 0 0,.int .i64 0,.int .i64 0,.int .i64 0,.string (⟨#[]⟩ : ByteArray),.slice none 0 0,.int .i64 0,.int .i64 0,.int .i64 0,.string (⟨#[]⟩ : ByteArray),.slice none 0 0,.int .i64 0,.int .i64 0,.int .i64 0] (Blk.new w1 _ _) (by kernel_rfl) rfl (by kernel_rfl) ?_; apply Hid.out)
  have hzl : w.heap.size<w1.heap.size:=HR1.out.lt
  have hbw : Below w1.heap.size w1 ((w1.alloc (.cells #[.string (⟨#[]⟩ : ByteArray),.slice none 0 0,.int .i64 0,.int .i64 0,.int .i64 0,.string (⟨#[]⟩ : ByteArray),.slice none 0 0,.int .i64 0,.int .i64 0,.int .i64 0,.string (⟨#[]⟩ : ByteArray),.slice none 0 0,.int .i64 0,.int .i64 0,.int .i64 0,.string (⟨#[]⟩ : ByteArray),.slice none 0 0,.int .i64 0,.int .i64 0,.int .i64 0,.string (⟨#[]⟩ : ByteArray),.slice none 0 0,.int .i64 0,.int .i64 0,.int .i64 0] 28)).setRow w1.heap.size (byE nm (slV ls) ea eb ec ed q sh ch)):=((Below.refl _ _).alloc (Nat.le_refl _) _).trans (row_below (Nat.le_refl _))
  have HB2:=Lib.hid (HB1.out.trans (hbw.mono HB1.out.size))
  have HR2:=Lib.hid (HR1.out.later hbw)
  have HAT2:=Lib.hid (HAT.out.laterN hbw)
  have HX2 : Hid (Blk ((w1.alloc (.cells #[.string (⟨#[]⟩ : ByteArray),.slice none 0 0,.int .i64 0,.int .i64 0,.int .i64 0,.string (⟨#[]⟩ : ByteArray),.slice none 0 0,.int .i64 0,.int .i64 0,.int .i64 0,.string (⟨#[]⟩ : ByteArray),.slice none 0 0,.int .i64 0,.int .i64 0,.int .i64 0,.string (⟨#[]⟩ : ByteArray),.slice none 0 0,.int .i64 0,.int .i64 0,.int .i64 0,.string (⟨#[]⟩ : ByteArray),.slice none 0 0,.int .i64 0,.int .i64 0,.int .i64 0] 28)).setRow w1.heap.size (byE nm (slV ls) ea eb ec ed q sh ch)) w1.heap.size 28 (byE nm (slV ls) ea eb ec ed q sh ch)):=Lib.hid (setRow_heap _ _ #[.string (⟨#[]⟩ : ByteArray),.slice none 0 0,.int .i64 0,.int .i64 0,.int .i64 0,.string (⟨#[]⟩ : ByteArray),.slice none 0 0,.int .i64 0,.int .i64 0,.int .i64 0,.string (⟨#[]⟩ : ByteArray),.slice none 0 0,.int .i64 0,.int .i64 0,.int .i64 0,.string (⟨#[]⟩ : ByteArray),.slice none 0 0,.int .i64 0,.int .i64 0,.int .i64 0,.string (⟨#[]⟩ : ByteArray),.slice none 0 0,.int .i64 0,.int .i64 0,.int .i64 0] _ _ (0,0) (Blk.new w1 _ _))
  clear hbw HB1 HR1 HAT
  generalize (w1.alloc (.cells #[.string (⟨#[]⟩ : ByteArray),.slice none 0 0,.int .i64 0,.int .i64 0,.int .i64 0,.string (⟨#[]⟩ : ByteArray),.slice none 0 0,.int .i64 0,.int .i64 0,.int .i64 0,.string (⟨#[]⟩ : ByteArray),.slice none 0 0,.int .i64 0,.int .i64 0,.int .i64 0,.string (⟨#[]⟩ : ByteArray),.slice none 0 0,.int .i64 0,.int .i64 0,.int .i64 0,.string (⟨#[]⟩ : ByteArray),.slice none 0 0,.int .i64 0,.int .i64 0,.int .i64 0] 28)).setRow w1.heap.size (byE nm (slV ls) ea eb ec ed q sh ch)=w2 at *
  generalize w1.heap.size=g4 at *
  refine Lib.hid ?_
  by_cases h0 : ee=0
  · have h0b : (ee == 0)=true:=by rw [h0]; rfl
    have HPE : Hid (PV=(shB ⟨nm,ls,ea,eb,ec,ed,q,sh,ch⟩,chkU ⟨nm,ls,ea,eb,ec,ed,q,sh,ch⟩)):=Lib.hid (by
      rw [HPV.out,if_pos h0,HSH.out,chkU_is HSH.out])
    have HL20 : Hid (ls.l.length≤1000000):=Lib.hid (by
      have h1:=HPL.out
      rw [← HSH.out] at h1
      simp only [shB,List.length_map] at h1
      omega)
    clear h0 HPV HSH
    go_wp2_with (refine wpList_load_row rfl 28 (.tmp 4) rfl g4 rfl 28 (byE nm (slV ls) ea eb ec ed q sh ch) (0,0) _ HX2.out Tryz.underlying28 rfl (by kernel_rfl) ?_)
    have hk:=un_Check ⟨nm,ls,ea,eb,ec,ed,q,sh,ch⟩ w2 (HAT2.out.keepF (fun _ _=>rfl) (fun i hi=>hi.2)) HL20.out
    rw [byl_v] at hk
    refine hk.mono ?_
    clear hk
    rintro r w3 ⟨rfl,hb3⟩
    have HB3:=Lib.hid (HB2.out.trans (hb3.mono HB2.out.size))
    have HR3:=Lib.hid (HR2.out.later hb3)
    have HX3:=Lib.hid (HX2.out.later hb3)
    have HAT3:=Lib.hid (HAT2.out.laterN hb3)
    clear hb3 HB2 HR2 HX2 HAT2
    go_wp2_with (first | (refine wpList_load_row rfl 28 (.tmp 4) rfl g4 rfl 28 (byE nm (slV ls) ea eb ec ed q sh ch) (0,0) _ HX3.out Tryz.underlying28 rfl (by kernel_rfl) ?_) | (refine wpList_store_row rfl 28 (.tmp 2) (.tmp 17) rfl w.heap.size (byE nm (slV ls) ea eb ec ed q sh ch) rfl rfl 28 #[.string (⟨#[]⟩ : ByteArray),.slice none 0 0,.int .i64 0,.int .i64 0,.int .i64 0,.string (⟨#[]⟩ : ByteArray),.slice none 0 0,.int .i64 0,.int .i64 0,.int .i64 0,.string (⟨#[]⟩ : ByteArray),.slice none 0 0,.int .i64 0,.int .i64 0,.int .i64 0,.string (⟨#[]⟩ : ByteArray),.slice none 0 0,.int .i64 0,.int .i64 0,.int .i64 0,.string (⟨#[]⟩ : ByteArray),.slice none 0 0,.int .i64 0,.int .i64 0,.int .i64 0] HR3.out (by kernel_rfl) rfl (by kernel_rfl) ?_; apply Hid.out))
    have hR4:=setRow_heap w3 w.heap.size #[.string (⟨#[]⟩ : ByteArray),.slice none 0 0,.int .i64 0,.int .i64 0,.int .i64 0,.string (⟨#[]⟩ : ByteArray),.slice none 0 0,.int .i64 0,.int .i64 0,.int .i64 0,.string (⟨#[]⟩ : ByteArray),.slice none 0 0,.int .i64 0,.int .i64 0,.int .i64 0,.string (⟨#[]⟩ : ByteArray),.slice none 0 0,.int .i64 0,.int .i64 0,.int .i64 0,.string (⟨#[]⟩ : ByteArray),.slice none 0 0,.int .i64 0,.int .i64 0,.int .i64 0] (byE nm (slV ls) ea eb ec ed q sh ch) 28 (0,0) HR3.out
    have HR4 : Hid (Blk (w3.setRow w.heap.size (byE nm (slV ls) ea eb ec ed q sh ch)) w.heap.size 28 (byE nm (slV ls) ea eb ec ed q sh ch)):=Lib.hid hR4
    have HB4 : Hid (Below w.heap.size w (w3.setRow w.heap.size (byE nm (slV ls) ea eb ec ed q sh ch))):=Lib.hid (HB3.out.trans (row_below (Nat.le_refl _)))
    have HAT4 : Hid (Byl.At (Nw w.heap.size (w3.setRow w.heap.size (byE nm (slV ls) ea eb ec ed q sh ch))) (w3.setRow w.heap.size (byE nm (slV ls) ea eb ec ed q sh ch)) ⟨nm,ls,ea,eb,ec,ed,q,sh,ch⟩):=Lib.hid (HAT3.out.keepF (fun i hi=>setRow_other _ _ _ _ (by have:=hi.1; omega)) (fun i hi=>⟨by have:=hi.1; omega,by have:=hi.2; simp [World.setRow]; omega⟩))
    clear hR4 HR3 HX3 HAT3 HB3
    generalize w3.setRow w.heap.size (byE nm (slV ls) ea eb ec ed q sh ch)=w4 at *
    refine Lib.hid ?_
    go_wp2_with fail
    refine bodyPost_ret (cp_results _ w4 w.heap.size (byE nm (slV ls) ea eb ec ed q sh ch) _ (by kernel_rfl) rfl rfl HR4.out) rfl ?_
    rw [HPE.out]
    exact ⟨HB4.out,_,rfl,HAT4.out,by rw [byl_v]; rfl⟩
  · have h0b : (ee == 0)=false:=by simpa using h0
    have HPE : Hid (PV=(shB ⟨nm,ls,ea,eb,ec,ed,q,sh,ch⟩,ee)):=Lib.hid (by
      rw [HPV.out,if_neg h0,HSH.out])
    have HR3:=HR2
    have HB3:=HB2
    have HX3:=HX2
    have HAT3:=HAT2
    clear h0 HPV HSH HR2 HB2 HX2 HAT2
    obtain ⟨w3,hw3⟩ : ∃ x,x=w2:=⟨_,rfl⟩
    subst hw3
    go_wp2_with (first | (refine wpList_load_row rfl 28 (.tmp 4) rfl g4 rfl 28 (byE nm (slV ls) ea eb ec ed q sh ch) (0,0) _ HX3.out Tryz.underlying28 rfl (by kernel_rfl) ?_) | (refine wpList_store_row rfl 28 (.tmp 2) (.tmp 17) rfl w.heap.size (byE nm (slV ls) ea eb ec ed q sh ch) rfl rfl 28 #[.string (⟨#[]⟩ : ByteArray),.slice none 0 0,.int .i64 0,.int .i64 0,.int .i64 0,.string (⟨#[]⟩ : ByteArray),.slice none 0 0,.int .i64 0,.int .i64 0,.int .i64 0,.string (⟨#[]⟩ : ByteArray),.slice none 0 0,.int .i64 0,.int .i64 0,.int .i64 0,.string (⟨#[]⟩ : ByteArray),.slice none 0 0,.int .i64 0,.int .i64 0,.int .i64 0,.string (⟨#[]⟩ : ByteArray),.slice none 0 0,.int .i64 0,.int .i64 0,.int .i64 0] HR3.out (by kernel_rfl) rfl (by kernel_rfl) ?_; apply Hid.out))
    have hR4:=setRow_heap w3 w.heap.size #[.string (⟨#[]⟩ : ByteArray),.slice none 0 0,.int .i64 0,.int .i64 0,.int .i64 0,.string (⟨#[]⟩ : ByteArray),.slice none 0 0,.int .i64 0,.int .i64 0,.int .i64 0,.string (⟨#[]⟩ : ByteArray),.slice none 0 0,.int .i64 0,.int .i64 0,.int .i64 0,.string (⟨#[]⟩ : ByteArray),.slice none 0 0,.int .i64 0,.int .i64 0,.int .i64 0,.string (⟨#[]⟩ : ByteArray),.slice none 0 0,.int .i64 0,.int .i64 0,.int .i64 0] (byE nm (slV ls) ea eb ec ed q sh ch) 28 (0,0) HR3.out
    have HR4 : Hid (Blk (w3.setRow w.heap.size (byE nm (slV ls) ea eb ec ed q sh ch)) w.heap.size 28 (byE nm (slV ls) ea eb ec ed q sh ch)):=Lib.hid hR4
    have HB4 : Hid (Below w.heap.size w (w3.setRow w.heap.size (byE nm (slV ls) ea eb ec ed q sh ch))):=Lib.hid (HB3.out.trans (row_below (Nat.le_refl _)))
    have HAT4 : Hid (Byl.At (Nw w.heap.size (w3.setRow w.heap.size (byE nm (slV ls) ea eb ec ed q sh ch))) (w3.setRow w.heap.size (byE nm (slV ls) ea eb ec ed q sh ch)) ⟨nm,ls,ea,eb,ec,ed,q,sh,ch⟩):=Lib.hid (HAT3.out.keepF (fun i hi=>setRow_other _ _ _ _ (by have:=hi.1; omega)) (fun i hi=>⟨by have:=hi.1; omega,by have:=hi.2; simp [World.setRow]; omega⟩))
    clear hR4 HR3 HX3 HAT3 HB3
    generalize w3.setRow w.heap.size (byE nm (slV ls) ea eb ec ed q sh ch)=w4 at *
    refine Lib.hid ?_
    go_wp2_with fail
    refine bodyPost_ret (cp_results _ w4 w.heap.size (byE nm (slV ls) ea eb ec ed q sh ch) _ (by kernel_rfl) rfl rfl HR4.out) rfl ?_
    rw [HPE.out]
    exact ⟨HB4.out,_,rfl,HAT4.out,by rw [byl_v]; rfl⟩
end Go.Proofs.YtpbdjpfbhicmdaaGreatDoor
