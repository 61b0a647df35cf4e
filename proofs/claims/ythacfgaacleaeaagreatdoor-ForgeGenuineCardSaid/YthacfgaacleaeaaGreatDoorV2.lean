/- Parts of a proof: SymC,SymD,PlOct,OctA,TabOct,PlA,SymG,CuA,FgA,Strs,SymH. No conditions. -/
import Derived.Test.YthacfgaacleaeaaGreatDoorV1
import Derived.PlainAid
import Derived.Deep.Upon
import Derived.Deep.Slices
set_option linter.unusedVariables false
set_option linter.unusedSimpArgs false
namespace Go.Proofs.YthacfgaacleaeaaGreatDoor.Sym
open Go.IntKind (i64 u32)
open Go.RowKit
section
variable {P:Program} {S:Tab} {G:GTab} {N:Nat} {w0:World} {bs:List Nat}
def wantedS (ops:Array Oper) (st:St) (o:Oper):Option Bool :=
  match o.guard with
  | none=>some true
  | some (j,want)=>match (ops[j]?).bind (·.dst) with
    | some d=>(match look st.fr d with
      | some .tt=>some want
      | some .ff=>some (!want)
      | some (.v (.tuple _))=>some false
      | _=>none)
    | none=>some false
theorem wantedS_ok {ops:Array Oper} {st:St} {B:List Value} {a:Act} (h:Slots N st.fr B a) {o:Oper} {b:Bool} (hw:wantedS ops st o=some b):Region.wanted o (yielded ops a.tmps)=b:=by
  unfold wantedS at hw
  unfold Region.wanted
  split at hw
  · rename_i hg;rw [hg];simpa using hw
  · rename_i j want hg
    rw [hg]
    unfold yielded
    split at hw
    · rename_i d hd
      simp only [hd,Option.bind_some]
      split at hw
      · rename_i hx
        have:=h.slot d _ hx
        simp only [SV.to,Option.some.injEq] at this
        rw [Array.getD_eq_getD_getElem?] at this
        cases ht:a.tmps[d]? with
        | none=>rw [ht] at this;simp [undef] at this
        | some y =>
          rw [ht] at this
          simp only [Option.getD_some] at this
          subst this
          simp only [Option.some.injEq] at hw ⊢
          rw [← hw]
          cases want <;> rfl
      · rename_i hx
        have:=h.slot d _ hx
        simp only [SV.to,Option.some.injEq] at this
        rw [Array.getD_eq_getD_getElem?] at this
        cases ht:a.tmps[d]? with
        | none=>rw [ht] at this;simp [undef] at this
        | some y =>
          rw [ht] at this
          simp only [Option.getD_some] at this
          subst this
          simp only [Option.some.injEq] at hw ⊢
          rw [← hw]
          cases want <;> rfl
      · rename_i x hx
        have:=h.slot d _ hx
        simp only [SV.to,Option.some.injEq] at this
        rw [Array.getD_eq_getD_getElem?] at this
        simp only [Option.some.injEq] at hw
        subst hw
        cases ht:a.tmps[d]? with
        | none=>rfl
        | some y =>
          rw [ht] at this
          simp only [Option.getD_some] at this
          subst this
          rfl
      · cases hw
    · rename_i hd
      simp only [hd]
      simp only [Option.some.injEq] at hw
      subst hw
      rfl
def isGuard (ops:Array Oper) (i:Nat):Bool:=ops.toList.any fun o=>match o.guard with | some (j,_)=>Nat.beq j i | none=>false
def St.mk2 (st:St) (dst:Option Tmp) (s:SV) (e:Eff):St:=(St.mk st.fr (e.run st.H)).put dst s
def putR (N:Nat) (isG:Bool) (dst:Option Tmp) (st:St) (p:SV×Eff):T St :=
  bif dstOk N dst then
    (match isG,p.1 with
    | true,.v (.bool b)=>.ite b (.leaf (st.mk2 dst .tt p.2)) (.leaf (st.mk2 dst .ff p.2))
    | _,s=>.leaf (st.mk2 dst s p.2))
  else .stuck 30
theorem putR_ok {isG:Bool} {dst:Option Tmp} {st:St} {e:Eff} {s:SV} {B:List Value} {a:Act} (h:Slots N st.fr B a) {x:Value} (hs:s.to B=some x) {Qs:St→Prop} (hq:(putR N isG dst st (s,e)).ok Qs) :
    ∃ st',Qs st'∧Slots N st'.fr B (a.put dst x)∧st'.H=e.run st.H:=by
  unfold putR at hq
  cases hd:dstOk N dst
  · rw [hd] at hq;exact hq.elim
  · rw [hd,cond_true] at hq
    have hp:∀ (s':SV),s'.to B=some x→Slots N (st.mk2 dst s' e).fr B (a.put dst x)∧(st.mk2 dst s' e).H=e.run st.H:=fun s' hs'=>⟨Slots.put (st:=St.mk st.fr (e.run st.H)) h hd hs',by cases dst <;> rfl⟩
    split at hq
    · rename_i b heq
      simp only at heq
      subst heq
      simp only [SV.to,Option.some.injEq] at hs
      cases b
      · exact ⟨_,hq.2 rfl,hp _ (by simpa [SV.to] using hs)⟩
      · exact ⟨_,hq.1 rfl,hp _ (by simpa [SV.to] using hs)⟩
    · exact ⟨_,hq,hp _ hs⟩
theorem T.ok_point {α:Type} {Q:α→Prop}:∀ {t:T α},t.ok Q→∃ a,Q a∧∀ Q':α→Prop,Q' a→t.ok Q'
  | .leaf a,h=>⟨a,h,fun _ h=>h⟩
  | .ite true t _,h=>let ⟨a,h1,h2⟩:=T.ok_point (t:=t) (h.1 rfl);⟨a,h1,fun Q' hq=>⟨fun _=>h2 Q' hq,(fun e=>by cases e)⟩⟩
  | .ite false _ e,h=>let ⟨a,h1,h2⟩:=T.ok_point (t:=e) (h.2 rfl);⟨a,h1,fun Q' hq=>⟨(fun e=>by cases e),fun _=>h2 Q' hq⟩⟩
  | .need p t,h=>let ⟨a,h1,h2⟩:=T.ok_point (t:=t) h.2;⟨a,h1,fun Q' hq=>⟨h.1,h2 Q' hq⟩⟩
  | .stuck _,h=>h.elim
theorem T.ok_both {α:Type} {Q Q2:α→Prop}:∀ {t:T α},t.ok Q→t.ok Q2→t.ok fun a=>Q a∧Q2 a
  | .leaf _,h,h2=>⟨h,h2⟩
  | .ite _ t e,h,h2=>⟨fun hb=>T.ok_both (t:=t) (h.1 hb) (h2.1 hb),fun hb=>T.ok_both (t:=e) (h.2 hb) (h2.2 hb)⟩
  | .need _ t,h,h2=>⟨h.1,T.ok_both (t:=t) h.2 h2.2⟩
  | .stuck _,h,_=>h
theorem T.bind_ok {α β:Type} {Q:β→Prop} {f:α→T β}:∀ {t:T α},(t.ok fun a=>(f a).ok Q)→(t.bind f).ok Q
  | .leaf _,h=>h
  | .ite _ t e,h=>⟨fun hb=>T.bind_ok (t:=t) (h.1 hb),fun hb=>T.bind_ok (t:=e) (h.2 hb)⟩
  | .need _ t,h=>⟨h.1,T.bind_ok (t:=t) h.2⟩
  | .stuck _,h=>h
theorem putR_point {isG:Bool} {dst:Option Tmp} {st:St} {p:SV×Eff} {Qs:St→Prop} (hq:(putR N isG dst st p).ok Qs):∃ s,Qs (st.mk2 dst s p.2)∧∀ (st':St) (Q':St→Prop),Q' (st'.mk2 dst s p.2)→(putR N isG dst st' p).ok Q':=by
  unfold putR at hq ⊢
  cases hd:dstOk N dst
  · rw [hd] at hq;exact hq.elim
  · simp only [hd,cond_true] at hq ⊢
    split at hq
    · rename_i b heq
      cases b
      · refine ⟨.ff,hq.2 rfl,fun st' Q' h=>?_⟩
        first | exact ⟨(fun e=>by cases e),fun _=>h⟩ | (simp only [heq];exact ⟨(fun e=>by cases e),fun _=>h⟩)
      · refine ⟨.tt,hq.1 rfl,fun st' Q' h=>?_⟩
        first | exact ⟨fun _=>h,(fun e=>by cases e)⟩ | (simp only [heq];exact ⟨fun _=>h,(fun e=>by cases e)⟩)
    · rename_i hne
      refine ⟨p.1,hq,fun st' Q' h=>?_⟩
      first | exact h | (split;(rename_i b heq;exact absurd heq (hne b rfl));exact h)
def depB (md:Region.Mode) (ops:Array Oper) (i:Nat):Nat→Nat→Bool
  | 0,_=>false
  | n+1,j=>match ops[j]? with
    | some o=>o.after.any fun e=>Region.binds md e && (Nat.beq e.on i || depB md ops i n e.on)
    | none=>false
def upL (md:Region.Mode) (A:List Nat):List Edge→Nat→Nat
  | [],s=>s
  | e :: l,s=>upL md A l (bif Region.binds md e && Nat.blt e.on A.length then s ||| (2 ^ e.on ||| A.getD e.on 0) else s)
def ups (md:Region.Mode):List Oper→List Nat→List Nat
  | [],A=>A
  | o :: l,A=>ups md l (A++[upL md A o.after.toList 0])
theorem upL_bit {md:Region.Mode} {A:List Nat} {i:Nat}:∀ (l:List Edge) (s:Nat),(upL md A l s).testBit i=true→s.testBit i=true ∨ ∃ e ∈ l,Region.binds md e=true∧e.on < A.length∧(e.on=i ∨ (A.getD e.on 0).testBit i=true)
  | [],s,h=>.inl h
  | e :: l,s,h=>by
    simp only [upL] at h
    rcases upL_bit l _ h with h | ⟨e',h1,h2⟩
    · cases hb:Region.binds md e && Nat.blt e.on A.length
      · rw [hb,cond_false] at h;exact .inl h
      · rw [hb,cond_true,Nat.testBit_or,Nat.testBit_or,Bool.or_eq_true,Bool.or_eq_true] at h
        rw [Bool.and_eq_true,Nat.blt_eq] at hb
        rcases h with h | h | h
        · exact .inl h
        · refine .inr ⟨e,List.mem_cons_self ..,hb.1,hb.2,.inl ?_⟩
          rw [Nat.testBit_two_pow] at h
          exact of_decide_eq_true h
        · exact .inr ⟨e,List.mem_cons_self ..,hb.1,hb.2,.inr h⟩
    · exact .inr ⟨e',List.mem_cons_of_mem _ h1,h2⟩
theorem depB_any {md:Region.Mode} {ops:Array Oper} {i n j:Nat} {o:Oper} (ho:ops[j]?=some o):depB md ops i (n+1) j=true ↔ ∃ e ∈ o.after.toList,Region.binds md e=true∧(e.on=i ∨ depB md ops i n e.on=true):=by
  simp only [depB,ho]
  rw [← Array.any_toList,List.any_eq_true]
  constructor
  · rintro ⟨e,h1,h2⟩
    rw [Bool.and_eq_true,Bool.or_eq_true,Nat.beq_eq] at h2
    exact ⟨e,h1,h2⟩
  · rintro ⟨e,h1,h2⟩
    exact ⟨e,h1,by rw [Bool.and_eq_true,Bool.or_eq_true,Nat.beq_eq];exact h2⟩
theorem depB_mono {md:Region.Mode} {ops:Array Oper} {i:Nat}:∀ {n j:Nat},depB md ops i n j=true→depB md ops i (n+1) j=true
  | 0,_,h=>by simp [depB] at h
  | n + 1,j,h=>by
    cases ho:ops[j]? with
    | none=>simp only [depB,ho] at h;cases h
    | some o =>
      rw [depB_any ho] at h ⊢
      obtain ⟨e,h1,h2,h3⟩:=h
      exact ⟨e,h1,h2,h3.imp id depB_mono⟩
def UpOk (md:Region.Mode) (ops:Array Oper) (A:List Nat):Prop:=∀ j,j < A.length→∀ i,(A.getD j 0).testBit i=true→depB md ops i A.length j=true
theorem ups_ok {md:Region.Mode} {ops:Array Oper}:∀ (l:List Oper) (A:List Nat),(∀ t,l[t]?=ops[A.length+t]?)→UpOk md ops A→UpOk md ops (ups md l A)∧(ups md l A).length=A.length+l.length
  | [],A,_,h=>⟨h,rfl⟩
  | o :: l,A,hl,h=>by
    have hlen:(A++[upL md A o.after.toList 0]).length=A.length+1:=by simp
    have ho:ops[A.length]?=some o:=by simpa using (hl 0).symm
    have := ups_ok (md:=md) (ops:=ops) l (A++[upL md A o.after.toList 0]) (fun t=>by
      have:=hl (t+1)
      rw [hlen,show A.length+1+t=A.length+(t+1) by omega,← this];simp) (fun j hj i hi=>by
      rw [hlen] at hj ⊢
      by_cases e:j < A.length
      · rw [List.getD_eq_getElem?_getD,List.getElem?_append_left e,← List.getD_eq_getElem?_getD] at hi
        exact depB_mono (h j e i hi)
      · obtain rfl:j=A.length:=by omega
        have hg:(A++[upL md A o.after.toList 0]).getD A.length 0=upL md A o.after.toList 0:=by simp
        rw [hg] at hi
        rw [depB_any ho]
        rcases upL_bit _ _ hi with h0 | ⟨e,h1,h2,h3,h4⟩
        · simp at h0
        · exact ⟨e,h1,h2,h4.imp id (h e.on h3 i)⟩)
    obtain ⟨h1,h2⟩:=this
    refine ⟨h1,?_⟩
    show (ups md l _).length=_
    rw [h2,hlen,List.length_cons];omega
def maskDep (md:Region.Mode) (ops:Array Oper) (i j:Nat):Bool:=((ups md ops.toList []).getD j 0).testBit i
theorem maskDep_ok {md:Region.Mode} {ops:Array Oper} {i j:Nat} (h:maskDep md ops i j=true):depB md ops i ops.size j=true:=by
  obtain ⟨h1,h2⟩:=ups_ok (md:=md) (ops:=ops) ops.toList [] (fun t=>by simp) (fun j hj=>by simp at hj)
  have hsz:(ups md ops.toList []).length=ops.size:=by rw [h2];simp
  unfold maskDep at h
  by_cases hj:j < (ups md ops.toList []).length
  · have:=h1 j hj i h
    rw [hsz] at this
    exact this
  · rw [List.getD_eq_getElem?_getD,List.getElem?_eq_none (by omega)] at h
    simp at h
def Eff.touch (n:Nat) (e:Eff):List Nat:=e.muts.map (·.1)++(List.range e.news.length).map (n+·)
def effAt (E:Oper→Bool) (ops:Array Oper) (j:Nat):Bool:=match ops[j]? with | some o=>E o | none=>false
def hiddenB (md:Region.Mode) (E:Oper→Bool) (ops:Array Oper) (V:Nat→Nat→Bool) (i n:Nat) (e:Eff):Bool :=
  (e.touch n).all fun q=>(List.range ops.size).all fun j=>Nat.beq j i || !(V j q) || effAt E ops j || maskDep md ops i j || maskDep md ops j i
def hidden (md:Region.Mode) (E:Oper→Bool) (ops:Array Oper) (V:Nat→Nat→Bool) (i n:Nat) (p:SV×Eff):T (SV×Eff):=bif hiddenB md E ops V i n p.2 then .leaf p else .stuck 120
def visAt (v:Nat→Bool) (H:List Blk):Nat→Option Blk:=fun k=>bif v k then H[k]? else none
section
variable (P:Program) (S:Tab) (G:GTab) (N:Nat)
def runOps (ops:Array Oper):List Oper→Nat→St→T St
  | [],_,st=>.leaf st
  | o :: rest,i,st=>match wantedS ops st o with
    | some true=>((evalE P S G (st.view o) o).bind (putR N (isGuard ops i) o.dst st)).bind (runOps ops rest (i+1))
    | some false=>bif dstOk N o.dst then runOps ops rest (i+1) (st.put o.dst (.v undef)) else .stuck 31
    | none=>.stuck 32
def rawA (md:Region.Mode) (E:Oper→Bool) (V:Nat→Nat→Bool) (ops:Array Oper) (i:Nat) (o:Oper) (st:St):T (SV×Eff) :=
  match wantedS ops st o with
  | some true=>bif E o then (evalE P S G (st.view o) o).bind (hidden md E ops V i st.H.length) else (evalQ P S (st.part (visAt (V i) st.H) o) o).bind fun s=>.leaf (s,noEff)
  | some false=>.leaf (.v undef,noEff)
  | none=>.stuck 33
def stepA (md:Region.Mode) (E:Oper→Bool) (V:Nat→Nat→Bool) (ops:Array Oper) (i:Nat) (o:Oper) (st:St):T St:=(rawA P S G md E V ops i o st).bind (putR N (isGuard ops i) o.dst st)
def runOpsD (md:Region.Mode) (E:Oper→Bool) (V:Nat→Nat→Bool) (ops:Array Oper):List Oper→Nat→St→T St
  | [],_,st=>.leaf st
  | o :: rest,i,st=>(stepA P S G N md E V ops i o st).bind (runOpsD md E V ops rest (i+1))
def AG (md:Region.Mode) (E:Oper→Bool) (V:Nat→Nat→Bool) (ops:Array Oper) (QQ:St→Prop):Nat→Array Bool→St→Prop
  | 0,listed,st=>Region.ready md ops listed=[]∧QQ st
  | fuel+1,listed,st=>(Region.ready md ops listed=[]→QQ st)∧∀ i ∈ Region.ready md ops listed,∀ o,ops[i]?=some o→(stepA P S G N md E V ops i o st).ok (AG md E V ops QQ fuel (listed.setIfInBounds i true))
end
theorem runOps_ok (hS:TabOk P S) (hG:GOk P G) {ops:Array Oper} {Qs:St→Prop} {Q:Exit→Act→World→Prop} {pre:List Value} (hQ:∀ st B a w,Qs st→pre <+: B→Slots N st.fr B a→Mem w0 bs st.H B w→Q .normal a w) :
    ∀ (l:List Oper) (i:Nat) (st:St) (B:List Value) (a:Act) (w:World),pre <+: B→Slots N st.fr B a→Mem w0 bs st.H B w→(runOps P S G N ops l i st).ok Qs→wpList P ops Q l a w
  | [],_,st,B,a,w,hp,h,hm,hq=>hQ st B a w hq hp h hm
  | o :: l,i,st,B,a,w,hp,h,hm,hq=>by
    simp only [runOps] at hq
    unfold wpList
    split at hq
    · rename_i hw
      rw [wantedS_ok h hw,if_pos rfl]
      refine .inl (evalE_ok hS hG (view_ok h o) rfl hm (T.ok_bind (T.ok_bind hq)) fun s ef B2 x w2 hq2 hpre hm2 hs=>?_)
      obtain ⟨st2,hq3,hsl,hH⟩:=putR_ok (h.mono hpre) hs hq2
      exact runOps_ok hS hG hQ l (i+1) st2 B2 _ w2 (hp.trans hpre) hsl (by rw [hH];exact hm2) hq3
    · rename_i hw
      rw [wantedS_ok h hw]
      cases hd:dstOk N o.dst
      · rw [hd] at hq;exact hq.elim
      · rw [hd,cond_true] at hq
        refine runOps_ok hS hG hQ l (i+1) _ B _ w hp (h.put hd (s:=.v undef) rfl) ?_ hq
        cases o.dst <;> exact hm
    · exact hq.elim
section
variable {md:Region.Mode} {E:Oper→Bool} {V:Nat→Nat→Bool} {ops:Array Oper} {QQ:St→Prop}
theorem visAt_ok (v:Nat→Bool) (H:List Blk):∀ k x,visAt v H k=some x→H[k]?=some x:=by
  intro k x h
  unfold visAt at h
  cases hb:v k
  · rw [hb] at h;cases h
  · rw [hb] at h;exact h
theorem foldl_set_get (l:List (Nat×Blk)):∀ (H:List Blk) (k:Nat),(∀ p ∈ l,p.1 ≠ k)→(l.foldl (fun H p=>H.set p.1 p.2) H)[k]?=H[k]?:=by
  induction l with
  | nil=>intro H k _;rfl
  | cons p l ih =>
    intro H k h
    simp only [List.foldl_cons]
    rw [ih _ _ (fun q hq=>h q (List.mem_cons_of_mem _ hq)),List.getElem?_set_ne (h p (List.mem_cons_self ..))]
theorem foldl_set_length (l:List (Nat×Blk)):∀ (H:List Blk),(l.foldl (fun H p=>H.set p.1 p.2) H).length=H.length:=by
  induction l with
  | nil=>intro H;rfl
  | cons p l ih=>intro H;simp only [List.foldl_cons];rw [ih];simp
theorem eff_run_get (e:Eff) (H:List Blk) (k:Nat) (hk:k ∉ e.touch H.length):(e.run H)[k]?=H[k]?:=by
  simp only [Eff.touch,List.mem_append,List.mem_map,List.mem_range,not_or,not_exists,not_and] at hk
  obtain ⟨h1,h2⟩:=hk
  have g1:(e.muts.foldl (fun H p=>H.set p.1 p.2) H)[k]?=H[k]?:=foldl_set_get _ _ _ (fun p hp=>h1 p hp)
  unfold Eff.run
  split
  · exact g1
  · rename_i l hl
    rcases Nat.lt_or_ge k H.length with hlt | hge
    · rw [List.getElem?_append_left (by rw [foldl_set_length];exact hlt),g1]
    · have hn:¬ (k - H.length < e.news.length):=fun h=>h2 (k - H.length) h (by omega)
      rw [List.getElem?_eq_none (l:=H) hge]
      apply List.getElem?_eq_none
      simp only [List.length_append,foldl_set_length]
      omega
theorem visAt_run {H:List Blk} {v:Nat→Bool} {e:Eff} (he:∀ q ∈ e.touch H.length,v q=false):visAt v (e.run H)=visAt v H:=by
  funext k
  unfold visAt
  cases hv:v k
  · rfl
  · simp only [cond_true]
    refine eff_run_get e H k fun hm=>?_
    rw [he k hm] at hv;cases hv
theorem mk2_fr (st:St) (dst:Option Tmp) (s:SV) (e:Eff):(st.mk2 dst s e).H=e.run st.H:=by cases dst <;> rfl
theorem stepA_wp (hS:TabOk P S) (hG:GOk P G) {i:Nat} {o:Oper} (ho:ops[i]?=some o) {st:St} {B:List Value} {a:Act} {w:World} (h:Slots N st.fr B a) (hm:Mem w0 bs st.H B w) {Φ:St→Prop} (hq:(stepA P S G N md E V ops i o st).ok Φ) {K:Act→World→Prop} {Q:Exit→Act→World→Prop}
    (hK:∀ st' B' a' w',Φ st'→B <+: B'→Slots N st'.fr B' a'→Mem w0 bs st'.H B' w'→K a' w'):wpOp P ops Q i K a w:=by
  unfold wpOp
  simp only [ho]
  have hq:=T.ok_bind hq
  unfold rawA at hq
  split at hq
  · rename_i hw
    rw [wantedS_ok h hw,if_pos rfl]
    refine .inl ?_
    cases he:E o
    · rw [he,cond_false] at hq
      obtain ⟨s,hq2,x,hs,hqx⟩:=evalQ_ok hS (part_ok h (visAt_ok (V i) st.H) o) hm (T.ok_bind hq)
      refine wp_of_quietAt (hqx w hm) hm fun w' hw'=>?_
      obtain ⟨st2,hq3,hsl,hH⟩:=putR_ok h hs hq2
      exact hK st2 B _ w' hq3 (List.prefix_refl _) hsl (by rw [hH];exact hw')
    · rw [he,cond_true] at hq
      refine evalE_ok hS hG (view_ok h o) rfl hm (T.ok_bind hq) fun s ef B2 x w2 hq2 hpre hm2 hs=>?_
      unfold hidden at hq2
      cases hh:hiddenB md E ops V i st.H.length ef
      · simp only [hh] at hq2;exact hq2.elim
      · simp only [hh,cond_true] at hq2
        obtain ⟨st2,hq3,hsl,hH⟩:=putR_ok (h.mono hpre) hs hq2
        exact hK st2 B2 _ w2 hq3 hpre hsl (by rw [hH];exact hm2)
  · rename_i hw
    rw [wantedS_ok h hw]
    obtain ⟨st2,hq3,hsl,hH⟩:=putR_ok h (s:=.v undef) rfl hq
    exact hK st2 B _ w hq3 (List.prefix_refl _) hsl (by rw [hH];exact hm)
  · exact hq.elim
theorem AG_sound (hS:TabOk P S) (hG:GOk P G) {pre:List Value} {Q:Exit→Act→World→Prop} (hQ:∀ st B a w,QQ st→pre <+: B→Slots N st.fr B a→Mem w0 bs st.H B w→Q .normal a w) :
    ∀ (fuel:Nat) (listed:Array Bool) (st:St) (B:List Value) (a:Act) (w:World),pre <+: B→Slots N st.fr B a→Mem w0 bs st.H B w→AG P S G N md E V ops QQ fuel listed st→wpAny P md ops Q fuel listed a w
  | 0,listed,st,B,a,w,hp,h,hm,hA=>⟨hA.1,hQ st B a w hA.2 hp h hm⟩
  | fuel+1,listed,st,B,a,w,hp,h,hm,hA=>by
    refine ⟨fun h0=>hQ st B a w (hA.1 h0) hp h hm,fun i hi=>?_⟩
    obtain ⟨-,o,ho,-⟩:=mem_ready.1 hi
    exact stepA_wp hS hG ho h hm (hA.2 i hi o ho) fun st' B' a' w' hA' hpre h' hm'=>AG_sound hS hG hQ fuel _ st' B' a' w' (hp.trans hpre) h' hm' hA'
def SEq (st st':St):Prop:=(∀ t,look st.fr t=look st'.fr t)∧st.H=st'.H
theorem wantedS_congr {st st':St} {o:Oper} (h:∀ t ∈ o.looksAt ops,look st.fr t=look st'.fr t):wantedS ops st o=wantedS ops st' o:=by
  unfold wantedS
  cases hg:o.guard with
  | none=>rfl
  | some p =>
    obtain ⟨j,want⟩:=p
    simp only
    cases hd:(ops[j]?).bind (·.dst) with
    | none=>rfl
    | some d =>
      simp only
      rw [h d (by unfold Oper.looksAt;rw [hg];simp only [hd];exact List.mem_append_right _ (by simp))]
theorem valR_congr {st st':St} {o:Oper} (h:∀ t ∈ o.looksAt ops,look st.fr t=look st'.fr t):valR (opTmps o) st.fr=valR (opTmps o) st'.fr:=by
  funext x
  cases x with
  | tmp t =>
    simp only [valR]
    cases hb:(opTmps o).any (Nat.beq t)
    · rfl
    · simp only [cond_true]
      rw [List.any_eq_true] at hb
      obtain ⟨u,hu,e⟩:=hb
      obtain rfl:=Nat.eq_of_beq_eq_true e
      exact h t (List.mem_append_left _ hu)
  | const v=>rfl
  | global n=>rfl
  | func f=>rfl
theorem rawA_congr {st st':St} {i:Nat} {o:Oper} (h:∀ t ∈ o.looksAt ops,look st.fr t=look st'.fr t) (hH:E o=true→st.H=st'.H) (hv':E o=false→visAt (V i) st.H=visAt (V i) st'.H):rawA P S G md E V ops i o st=rawA P S G md E V ops i o st':=by
  unfold rawA
  rw [wantedS_congr h]
  have hv:=valR_congr h
  cases he:E o
  · simp only [cond_false,St.part,hv,hv' he]
  · simp only [cond_true,St.view,hv,hH he]
theorem stepA_point {i:Nat} {o:Oper} {st:St} {Φ:St→Prop} (hq:(stepA P S G N md E V ops i o st).ok Φ) :
    ∃ s e,Φ (st.mk2 o.dst s e)∧(E o=false→e=noEff)∧(E o=true→e=noEff ∨ hiddenB md E ops V i st.H.length e=true)∧∀ st',rawA P S G md E V ops i o st'=rawA P S G md E V ops i o st→∀ Φ':St→Prop,Φ' (st'.mk2 o.dst s e)→(stepA P S G N md E V ops i o st').ok Φ':=by
  obtain ⟨p,hp,hpt⟩:=T.ok_point (T.ok_bind hq)
  obtain ⟨s,hs,hst⟩:=putR_point hp
  have hall:(rawA P S G md E V ops i o st).ok fun q=>(E o=false→q.2=noEff)∧(E o=true→q.2=noEff ∨ hiddenB md E ops V i st.H.length q.2=true):=by
    have h0:=T.ok_bind hq
    unfold rawA at h0 ⊢
    split at h0
    · cases he:E o
      · rw [he,cond_false] at h0
        simp only [cond_false]
        exact T.bind_ok (T.ok_mono (fun s _=>⟨fun _=>rfl,(fun h=>by cases h)⟩) (T.ok_bind h0))
      · rw [he,cond_true] at h0
        simp only [cond_true]
        refine T.bind_ok (T.ok_mono (fun q hq=>?_) (T.ok_bind h0))
        unfold hidden at hq ⊢
        cases hh:hiddenB md E ops V i st.H.length q.2
        · rw [hh] at hq;exact hq.elim
        · rw [cond_true];exact ⟨(fun h=>by cases h),fun _=>.inr hh⟩
    · exact ⟨fun _=>rfl,fun _=>.inl rfl⟩
    · exact h0.elim
  have h1:(rawA P S G md E V ops i o st).ok fun a=>a=p:=hpt _ rfl
  obtain ⟨r,⟨hr1,hr2⟩,-⟩:=T.ok_point (T.ok_both h1 hall)
  subst hr1
  exact ⟨s,r.2,hs,hr2.1,hr2.2,fun st' hr Φ' h=>by
    unfold stepA
    rw [hr]
    exact T.bind_ok (hpt _ (hst st' Φ' h))⟩
end
end
end Go.Proofs.YthacfgaacleaeaaGreatDoor.Sym
namespace Go.Proofs.YthacfgaacleaeaaGreatDoor.Sym
open Go.IntKind (i64 u32)
open Go.RowKit
section
variable {P:Program} {S:Tab} {G:GTab} {N:Nat} {md:Region.Mode} {E:Oper→Bool} {V:Nat→Nat→Bool} {ops:Array Oper} {QQ:St→Prop}
theorem look_mk2 {st:St} {dst:Option Tmp} {s:SV} {e:Eff} {t:Nat} (h:dst ≠ some t):look (st.mk2 dst s e).fr t=look st.fr t:=by
  cases dst with
  | none=>rfl
  | some d =>
    have hne:d ≠ t:=fun e=>h (by rw [e])
    have hb:Nat.beq d t=false:=by
      cases hb:Nat.beq d t
      · rfl
      · exact absurd (Nat.eq_of_beq_eq_true hb) hne
    simp only [St.mk2,St.put,look,hb,cond_false]
theorem look_mk2_same {st:St} {d:Nat} {s:SV} {e:Eff}:look (st.mk2 (some d) s e).fr d=some s:=by
  simp only [St.mk2,St.put,look,Nat.beq_refl,cond_true]
theorem SEq.refl (st:St):SEq st st:=⟨fun _=>rfl,rfl⟩
theorem SEq.mk2 {a b:St} (h:SEq a b) (dst:Option Tmp) (s:SV) (e:Eff):SEq (a.mk2 dst s e) (b.mk2 dst s e):=by
  refine ⟨fun t=>?_,by rw [mk2_fr,mk2_fr,h.2]⟩
  by_cases hd:dst=some t
  · subst hd;rw [look_mk2_same,look_mk2_same]
  · rw [look_mk2 hd,look_mk2 hd,h.1 t]
theorem AG_congr (hQ:∀ st st',SEq st st'→QQ st→QQ st'):∀ (fuel:Nat) (listed:Array Bool) (st st':St),SEq st st'→AG P S G N md E V ops QQ fuel listed st→AG P S G N md E V ops QQ fuel listed st'
  | 0,_,st,st',he,h=>⟨h.1,hQ st st' he h.2⟩
  | fuel+1,listed,st,st',he,h=>by
    refine ⟨fun h0=>hQ st st' he (h.1 h0),fun i hi o ho=>?_⟩
    obtain ⟨s,e,h1,-,-,h3⟩:=stepA_point (h.2 i hi o ho)
    exact h3 st' (rawA_congr (fun t _=>(he.1 t).symm) (fun _=>he.2.symm) fun _=>by rw [he.2]) _ (AG_congr hQ fuel _ _ _ (he.mk2 o.dst s e) h1)
def DC (md:Region.Mode) (ops:Array Oper) (listed:Array Bool):Prop:=∀ j o,ops[j]?=some o→listed.getD j false=true→∀ e ∈ o.after,Region.binds md e=true→listed.getD e.on false=true
theorem nat_beq_ne0 {a b:Nat} (h:a ≠ b):Nat.beq a b=false:=by
  cases hb:Nat.beq a b
  · rfl
  · exact absurd (Nat.eq_of_beq_eq_true hb) h
theorem depB_listed {listed:Array Bool} (hD:DC md ops listed) {i:Nat}:∀ (n j:Nat) (o:Oper),ops[j]?=some o→(∀ e ∈ o.after,Region.binds md e=true→listed.getD e.on false=true)→depB md ops i n j=true→listed.getD i false=true
  | 0,_,_,_,_,h=>by simp [depB] at h
  | n + 1,j,o,ho,hall,h=>by
    simp only [depB,ho] at h
    obtain ⟨e,he,hb⟩:=Array.any_eq_true'.1 h
    simp only [Bool.and_eq_true,Bool.or_eq_true] at hb
    obtain ⟨hb1,hb2⟩:=hb
    have hl:=hall e he hb1
    rcases hb2 with hb2 | hb2
    · obtain rfl:=Nat.eq_of_beq_eq_true hb2;exact hl
    · cases ho':ops[e.on]? with
      | none=>cases n <;> simp [depB,ho'] at hb2
      | some o'=>exact depB_listed hD n e.on o' ho' (fun e' he' hb'=>hD e.on o' ho' hl e' he' hb') hb2
theorem DC.set {listed:Array Bool} (hD:DC md ops listed) {j:Nat} {o:Oper} (ho:ops[j]?=some o) (hall:∀ e ∈ o.after,Region.binds md e=true→listed.getD e.on false=true):DC md ops (listed.setIfInBounds j true):=by
  intro k ok hk hl e he hb
  have up:∀ m,listed.getD m false=true→(listed.setIfInBounds j true).getD m false=true:=by
    intro m hm
    by_cases e':j=m
    · subst e'
      have hlt:j < listed.size:=by
        rcases Nat.lt_or_ge j listed.size with h | h
        · exact h
        · rw [Array.getD_eq_getD_getElem?,Array.getElem?_eq_none h] at hm;cases hm
      rw [Array.getD_eq_getD_getElem?,Array.getElem?_setIfInBounds_self_of_lt hlt];rfl
    · rw [getD_set_ne false e'];exact hm
  by_cases hjk:j=k
  · subst hjk
    rw [ho] at hk
    simp only [Option.some.injEq] at hk
    subst hk
    exact up _ (hall e he hb)
  · rw [getD_set_ne false hjk] at hl
    exact up _ (hD k ok hk hl e he hb)
theorem AG_first (hQ:∀ st st',SEq st st'→QQ st→QQ st') {i:Nat} {oi:Oper} (hi:ops[i]?=some oi) (m:Nat):∀ (fuel:Nat) (listed:Array Bool) (st:St),
    (∀ j oj,ops[j]?=some oj→j ≠ i→listed.getD j true=false→depB md ops i m j=true ∨ (oi.apart ops oj=true∧¬ (E oi=true∧E oj=true)))→DC md ops listed →
    i ∈ Region.ready md ops listed→(stepA P S G N md E V ops i oi st).ok (AG P S G N md E V ops QQ fuel (listed.setIfInBounds i true))→AG P S G N md E V ops QQ (fuel+1) listed st:=by
  intro fuel
  induction fuel with
  | zero =>
    intro listed st _ _ hr H
    refine ⟨fun h=>(by rw [h] at hr;cases hr),fun j hj o ho=>?_⟩
    by_cases hji:j=i
    · subst hji;rw [hi] at ho;simp only [Option.some.injEq] at ho;subst ho;exact H
    · obtain ⟨s,e,h1,-⟩:=stepA_point H
      have:=ready_mono hj hji
      rw [h1.1] at this
      cases this
  | succ fuel ih =>
    intro listed st hfree hD hr H
    refine ⟨fun h=>(by rw [h] at hr;cases hr),fun j hj oj hoj=>?_⟩
    by_cases hji:j=i
    · subst hji;rw [hi] at hoj;simp only [Option.some.injEq] at hoj;subst hoj;exact H
    · obtain ⟨si,ei,hA,hni,hidi,hpi⟩:=stepA_point H
      obtain ⟨hjun,oj',hoj',hall⟩:=mem_ready.1 hj
      rw [hoj] at hoj'
      simp only [Option.some.injEq] at hoj'
      subst hoj'
      have hiun:=(mem_ready.1 hr).1
      have hnl:listed.getD i false ≠ true:=by
        intro h
        rw [Array.getD_eq_getD_getElem?] at h hiun
        cases hx:listed[i]? with
        | none=>rw [hx] at h;cases h
        | some b=>rw [hx] at h hiun;simp only [Option.getD_some] at h hiun;rw [h] at hiun;cases hiun
      rcases hfree j oj hoj hji hjun with hdep | ⟨hap,hne⟩
      · exact absurd (depB_listed hD m j oj hoj hall hdep) hnl
      · obtain ⟨h1,h2,h3⟩:=Oper.apart_spec hap
        -- j behind i
        have hj2:=hA.2 j (ready_mono hj hji) oj hoj
        have hsz:∀ {k ok},ops[k]?=some ok→k < ops.size:=fun hk=>(Array.getElem?_eq_some_iff.1 hk).1
        have nij:depB md ops i ops.size j=false:=by
          cases hd:depB md ops i ops.size j
          · rfl
          · exact absurd (depB_listed hD _ j oj hoj hall hd) hnl
        have nji:depB md ops j ops.size i=false:=by
          cases hd:depB md ops j ops.size i
          · rfl
          · obtain ⟨-,oi',hoi',halli⟩:=mem_ready.1 hr
            have hl:=depB_listed hD _ i oi' hoi' halli hd
            have hlt:j < listed.size:=by
              rcases Nat.lt_or_ge j listed.size with h | h
              · exact h
              · rw [Array.getD_eq_getD_getElem?,Array.getElem?_eq_none h] at hl;cases hl
            rw [Array.getD_eq_getD_getElem?,Array.getElem?_eq_getElem hlt,Option.getD_some] at hl hjun
            rw [hl] at hjun;cases hjun
        have unseen:∀ {a b oa n e},ops[b]?=some oa→E oa=false→b ≠ a→depB md ops a ops.size b=false→depB md ops b ops.size a=false→(e=noEff ∨ hiddenB md E ops V a n e=true)→∀ q ∈ e.touch n,V b q=false:=by
          intro a b oa n e hb hEb hba h1 h2 he q hq
          rcases he with rfl | he
          · simp [Eff.touch,noEff] at hq
          · have:=List.all_eq_true.1 (List.all_eq_true.1 he q hq) b (List.mem_range.2 (hsz hb))
            have m1:maskDep md ops a b=false:=by
              cases hd:maskDep md ops a b
              · rfl
              · rw [maskDep_ok hd] at h1;cases h1
            have m2:maskDep md ops b a=false:=by
              cases hd:maskDep md ops b a
              · rfl
              · rw [maskDep_ok hd] at h2;cases h2
            rw [m1,m2,nat_beq_ne0 hba,show effAt E ops b=false by simp only [effAt,hb,hEb]] at this
            simpa using this
        have hrj:rawA P S G md E V ops j oj st=rawA P S G md E V ops j oj (st.mk2 oi.dst si ei):=by
          refine rawA_congr (fun t ht=>(look_mk2 fun e=>h1 t e ht).symm) (fun hE=>?_) (fun hE=>?_)
          · rw [mk2_fr]
            have:E oi=false:=by
              cases hEi:E oi
              · rfl
              · exact absurd ⟨hEi,hE⟩ hne
            rw [hni this,noEff_run]
          · rw [mk2_fr]
            refine (visAt_run (unseen hoj hE hji nij nji ?_)).symm
            cases hEi:E oi
            · exact .inl (hni hEi)
            · exact hidi hEi
        obtain ⟨sj,ej,hB,hnj,hidj,hpj⟩:=stepA_point hj2
        refine hpj st hrj _ ?_
        -- i behind j
        have hri:rawA P S G md E V ops i oi (st.mk2 oj.dst sj ej)=rawA P S G md E V ops i oi st:=by
          refine rawA_congr (fun t ht=>look_mk2 fun e=>h3 t e ht) (fun hE=>?_) (fun hE=>?_)
          · rw [mk2_fr]
            have:E oj=false:=by
              cases hEj:E oj
              · rfl
              · exact absurd ⟨hE,hEj⟩ hne
            rw [hnj this,noEff_run]
          · rw [mk2_fr]
            refine visAt_run (unseen hi hE (Ne.symm hji) nji nij ?_)
            cases hEj:E oj
            · exact .inl (hnj hEj)
            · have:=hidj hEj
              rw [mk2_fr,hni hE,noEff_run] at this
              exact this
        have hfree':∀ k ok,ops[k]?=some ok→k ≠ i→(listed.setIfInBounds j true).getD k true=false→depB md ops i m k=true ∨ (oi.apart ops ok=true∧¬ (E oi=true∧E ok=true)):=fun k ok hk hki hun=>by
          refine hfree k ok hk hki ?_
          by_cases hjk:j=k
          · subst hjk;exact hjun
          · rw [getD_set_ne true hjk] at hun;exact hun
        refine ih (listed.setIfInBounds j true) (st.mk2 oj.dst sj ej) hfree' (hD.set hoj hall) (ready_mono hr (Ne.symm hji)) (hpi _ hri _ ?_)
        rw [Array.setIfInBounds_comm _ _ hji]
        refine AG_congr hQ fuel _ _ _ ⟨fun t=>?_,?_⟩ hB
        · by_cases ei':oi.dst=some t
          · have ej':oj.dst ≠ some t:=h2 t ei'
            rw [look_mk2 ej',ei',look_mk2_same,look_mk2_same]
          · rw [look_mk2 (dst:=oi.dst) ei']
            by_cases ej':oj.dst=some t
            · rw [ej',look_mk2_same,look_mk2_same]
            · rw [look_mk2 ej',look_mk2 ej',look_mk2 ei']
        · simp only [mk2_fr]
          cases hEi:E oi
          · rw [hni hEi,noEff_run,noEff_run]
          · have:E oj=false:=by
              cases hEj:E oj
              · rfl
              · exact absurd ⟨hEi,hEj⟩ hne
            rw [hnj this,noEff_run,noEff_run]
def lexD (md:Region.Mode) (E:Oper→Bool) (ops:Array Oper):Nat→Nat→Array Bool→Bool
  | 0,_,listed=>(Region.ready md ops listed).isEmpty
  | fuel + 1,k,listed=>(Region.ready md ops listed).contains k && (match ops[k]? with
      | some ok=>(List.range ops.size).all fun j=>Nat.beq j k || listed.getD j true || (match ops[j]? with
          | some oj=>(ok.apart ops oj && !(E ok && E oj)) || depB md ops k ops.size j
          | none=>true)
      | none=>false) && lexD md E ops fuel (k+1) (listed.setIfInBounds k true)
theorem AG_lex (hQ:∀ st st',SEq st st'→QQ st→QQ st'):∀ (l:List Oper) (k:Nat) (listed:Array Bool) (st:St),(∀ j,l[j]?=ops[k+j]?)→lexD md E ops l.length k listed=true→DC md ops listed →
    (runOpsD P S G N md E V ops l k st).ok QQ→AG P S G N md E V ops QQ l.length listed st
  | [],_,_,_,_,hB,_,h=>⟨by simpa [lexD] using hB,h⟩
  | o :: l,k,listed,st,hl,hB,hD,h=>by
    have h0:ops[k]?=some o:=by simpa using (hl 0).symm
    simp only [List.length_cons,lexD,Bool.and_eq_true,h0] at hB
    obtain ⟨⟨hr,hf⟩,hB'⟩:=hB
    have hr:k ∈ Region.ready md ops listed:=by simpa using hr
    have hall:=(mem_ready.1 hr).2
    obtain ⟨o',ho',hall⟩:=hall
    rw [h0] at ho'
    simp only [Option.some.injEq] at ho'
    subst ho'
    refine AG_first hQ h0 ops.size l.length listed st (fun j oj hj hne hun=>?_) hD hr ?_
    · rw [List.all_eq_true] at hf
      have:=hf j (List.mem_range.2 (Array.getElem?_eq_some_iff.1 hj).1)
      simp only [hj,hun,Bool.or_false,Bool.or_eq_true,Bool.and_eq_true,Bool.not_eq_true'] at this
      rcases this with this | ⟨h1,h2⟩ | h3
      · exact absurd (Nat.eq_of_beq_eq_true this) hne
      · exact .inr ⟨h1,fun ⟨a,b⟩=>by rw [a,b] at h2;cases h2⟩
      · exact .inl h3
    · refine T.ok_mono (fun st' hst'=>?_) (T.ok_bind h)
      exact AG_lex hQ l (k+1) _ st' (fun j=>by have:=hl (j+1);simpa [Nat.add_assoc,Nat.add_comm 1 j] using this) hB' (hD.set h0 hall) hst'
end
end Go.Proofs.YthacfgaacleaeaaGreatDoor.Sym
namespace Go.Proofs.YthacfgaacleaeaaGreatDoor.Sym
open Go.IntKind (i64 u32)
open Go.RowKit
def posOf (k:Nat):List Nat→Nat→Option Nat
  | [],_=>none
  | j :: l,i=>bif Nat.beq j k then some i else posOf k l (i+1)
mutual
def SV.lets:SV→List Nat
  | .ptr k _ | .ref k | .elt k _ _ _=>[k]
  | .agg l | .tup l=>SV.letss l
  | .clo _ a b=>SV.letss a++SV.letss b
  | .ifc _ s=>SV.lets s
  | _=>[]
def SV.letss:List SV→List Nat
  | []=>[]
  | s :: l=>SV.lets s++SV.letss l
end
def Blk.lets:Blk→List Nat
  | .own cells=>SV.letss cells
  | .lst _ _ _ cells=>SV.letss cells
  | .que _ _ _ _ cells=>SV.letss cells
  | _=>[]
theorem posOf_get {k:Nat}:∀ {ks:List Nat} {i j:Nat},posOf k ks i=some j→i≤j∧ks[j - i]?=some k
  | [],_,_,h=>by simp [posOf] at h
  | a :: l,i,j,h=>by
    simp only [posOf] at h
    cases hb:Nat.beq a k
    · rw [hb,cond_false] at h
      obtain ⟨h1,h2⟩:=posOf_get h
      refine ⟨by omega,?_⟩
      rw [show j - i=(j - (i+1))+1 by omega,List.getElem?_cons_succ];exact h2
    · rw [hb,cond_true,Option.some.injEq] at h
      subst h
      rw [Nat.eq_of_beq_eq_true hb];simp
def reach (g:Nat→Option Blk):Nat→List Nat→List Nat→List Nat
  | 0,_,acc=>acc
  | _+1,[],acc=>acc
  | n+1,k :: todo,acc=>bif acc.any (Nat.beq k) then reach g n todo acc else reach g n ((match g k with | some b=>b.lets | none=>[])++todo) (acc++[k])
mutual
def SV.mapL (ρ:Nat→Option Nat):SV→Option SV
  | .v x=>some (.v x)
  | .c x=>some (.c x)
  | .tt=>some .tt
  | .ff=>some .ff
  | .ptr k off=>(ρ k).map fun i=>.ptr i off
  | .ref k=>(ρ k).map .ref
  | .elt k sz j off=>(ρ k).map fun i=>.elt i sz j off
  | .agg l=>(SV.mapLs ρ l).map .agg
  | .tup l=>(SV.mapLs ρ l).map .tup
  | .clo fn a b=>match SV.mapLs ρ a,SV.mapLs ρ b with | some x,some y=>some (.clo fn x y) | _,_=>none
  | .ifc t s=>(SV.mapL ρ s).map (.ifc t)
def SV.mapLs (ρ:Nat→Option Nat):List SV→Option (List SV)
  | []=>some []
  | s :: l=>match SV.mapL ρ s,SV.mapLs ρ l with | some x,some xs=>some (x :: xs) | _,_=>none
end
section
variable {ρ:Nat→Option Nat} {B Bl:List Value}
mutual
theorem SV.mapL_to (h:∀ (k i:Nat),ρ k=some i→Bl[i]?=B[k]?):∀ {s s':SV},s.mapL ρ=some s'→s'.to Bl=s.to B
  | .v _,_,e=>by simp only [SV.mapL,Option.some.injEq] at e;subst e;rfl
  | .c _,_,e=>by simp only [SV.mapL,Option.some.injEq] at e;subst e;rfl
  | .tt,_,e=>by simp only [SV.mapL,Option.some.injEq] at e;subst e;rfl
  | .ff,_,e=>by simp only [SV.mapL,Option.some.injEq] at e;subst e;rfl
  | .ptr k off,_,e=>by
    simp only [SV.mapL,Option.map_eq_some_iff] at e
    obtain ⟨i,hi,rfl⟩:=e
    simp only [SV.to,h k i hi]
  | .ref k,_,e=>by
    simp only [SV.mapL,Option.map_eq_some_iff] at e
    obtain ⟨i,hi,rfl⟩:=e
    simp only [SV.to,h k i hi]
  | .elt k sz j off,_,e=>by
    simp only [SV.mapL,Option.map_eq_some_iff] at e
    obtain ⟨i,hi,rfl⟩:=e
    simp only [SV.to,h k i hi]
  | .agg l,_,e=>by
    simp only [SV.mapL,Option.map_eq_some_iff] at e
    obtain ⟨l',hl,rfl⟩:=e
    simp only [SV.to,SV.mapLs_tos h hl]
  | .tup l,_,e=>by
    simp only [SV.mapL,Option.map_eq_some_iff] at e
    obtain ⟨l',hl,rfl⟩:=e
    simp only [SV.to,SV.mapLs_tos h hl]
  | .clo fn a b,_,e=>by
    simp only [SV.mapL] at e
    split at e
    · rename_i x y h1 h2
      simp only [Option.some.injEq] at e;subst e
      simp only [SV.to,SV.mapLs_tos h h1,SV.mapLs_tos h h2]
    · cases e
  | .ifc t s,_,e=>by
    simp only [SV.mapL,Option.map_eq_some_iff] at e
    obtain ⟨s',hs,rfl⟩:=e
    simp only [SV.to,SV.mapL_to h hs]
theorem SV.mapLs_tos (h:∀ (k i:Nat),ρ k=some i→Bl[i]?=B[k]?):∀ {l l':List SV},SV.mapLs ρ l=some l'→SV.tos Bl l'=SV.tos B l
  | [],_,e=>by simp only [SV.mapLs,Option.some.injEq] at e;subst e;rfl
  | s :: l,_,e=>by
    simp only [SV.mapLs] at e
    split at e
    · rename_i x xs h1 h2
      simp only [Option.some.injEq] at e;subst e
      simp only [SV.tos,SV.mapL_to h h1,SV.mapLs_tos h h2]
    · cases e
end
end
def locB (ρ:Nat→Option Nat):Blk→Blk
  | .own cells=>(match SV.mapLs ρ cells with | some c=>.own c | none=>.gone)
  | .lst e sz n cells=>(match SV.mapLs ρ cells with | some c=>.lst e sz n c | none=>.gone)
  | .que e sz n xp cells=>(match SV.mapLs ρ cells with | some c=>.que e sz n xp c | none=>.gone)
  | b=>b
theorem locB_sat {ρ:Nat→Option Nat} {B Bl:List Value} (h:∀ (k i:Nat),ρ k=some i→Bl[i]?=B[k]?) {w:World} {u:Value} {x:Blk} (hs:BlkSat B w u x):BlkSat Bl w u (locB ρ x):=by
  cases x with
  | own cells =>
    obtain ⟨b,vs,e1,e2,e3⟩:=hs
    simp only [locB]
    cases hc:SV.mapLs ρ cells with
    | none=>exact trivial
    | some c=>exact ⟨b,vs,e1,by rw [SV.mapLs_tos h hc];exact e2,e3⟩
  | lst e sz n cells =>
    obtain ⟨xs,e1,e2⟩:=hs
    simp only [locB]
    cases hc:SV.mapLs ρ cells with
    | none=>exact trivial
    | some c=>exact ⟨xs,by rw [SV.mapLs_tos h hc];exact e1,e2⟩
  | que e sz n xp cells =>
    obtain ⟨xs,e1,e2⟩:=hs
    simp only [locB]
    cases hc:SV.mapLs ρ cells with
    | none=>exact trivial
    | some c=>exact ⟨xs,by rw [SV.mapLs_tos h hc];exact e1,e2⟩
  | _=>exact hs
theorem locB_excl {ρ:Nat→Option Nat} {x:Blk} (h:(locB ρ x).excl=true):x.excl=true:=by
  cases x <;> first | rfl | exact h
theorem locB_row {ρ:Nat→Option Nat} {x:Blk} {n sz:Nat} {f:Nat→Nat→Value} (h:locB ρ x = .row n sz f):x = .row n sz f:=by
  cases x with
  | own cells=>simp only [locB] at h;split at h <;> cases h
  | lst e sz n cells=>simp only [locB] at h;split at h <;> cases h
  | que e sz n xp cells=>simp only [locB] at h;split at h <;> cases h
  | _=>exact h
def ordN (n0:Nat) (js:List Nat) (k:Nat):Option Nat:=match posOf k js 0 with
  | some i=>some (n0+i)
  | none=>bif Nat.blt k n0 then some k else none
def isAt (i:Nat):Option Nat→Bool
  | some j=>Nat.beq j i
  | none=>false
theorem isAt_iff {i:Nat} {o:Option Nat}:isAt i o=true ↔ o=some i:=by
  cases o with
  | none=>simp [isAt]
  | some j=>simp [isAt,Nat.beq_eq]
def ordCB (n0:Nat) (js:List Nat) (i k:Nat) (o:Option Blk):Blk:=match o with
  | some b=>bif isAt i (ordN n0 js k) then locB (ordN n0 js) b else .gone
  | none=>.gone
def ordCH (n0:Nat) (js:List Nat) (H:List Blk):List Blk :=
  (List.range n0).map (fun k=>ordCB n0 js k k H[k]?)++js.zipIdx.map fun p=>ordCB n0 js (n0+p.2) p.1 H[p.1]?
def ordCS (ρ:Nat→Option Nat):Option SV→Option SV
  | some s=>s.mapL ρ
  | none=>none
def letsO:Option SV→List Nat
  | some s=>s.lets
  | none=>[]
def ordCJ (n0:Nat) (ks:List Nat) (st:St):List Nat:=(reach (fun k=>st.H[k]?) 300 (ks.flatMap (fun t=>letsO (look st.fr t))++List.range n0) []).filter fun k=>Nat.ble n0 k && Nat.blt k st.H.length
def St.ordC (n0:Nat) (ks:List Nat) (st:St):St:=⟨ks.map fun t=>(t,ordCS (ordN n0 (ordCJ n0 ks st)) (look st.fr t)),ordCH n0 (ordCJ n0 ks st) st.H⟩
theorem look_each {g:Nat→Option SV} {t:Nat} {s:SV}:∀ {l:List Nat},look (l.map fun t=>(t,g t)) t=some s→g t=some s
  | [],h=>by simp [look] at h
  | u :: l,h=>by
    simp only [List.map_cons,look] at h
    cases hb:Nat.beq u t
    · rw [hb,cond_false] at h;exact look_each h
    · rw [hb,cond_true] at h;rw [← Nat.eq_of_beq_eq_true hb];exact h
theorem ordC_congr {n0:Nat} {ks:List Nat} {st st':St} (h:SEq st st'):st.ordC n0 ks=st'.ordC n0 ks:=by
  obtain ⟨fr,H⟩:=st
  obtain ⟨fr',H'⟩:=st'
  obtain ⟨h1,h2⟩:=h
  simp only at h1 h2
  subst h2
  unfold St.ordC ordCJ
  simp only [h1]
theorem ordC_ok {N n0:Nat} {M:List Nat} {w0:World} {bs:List Nat} {st:St} {B:List Value} {a:Act} {w:World} (hsl:Slots N st.fr B a) (hm:Mem w0 bs st.H B w) (hn:n0≤B.length) :
    ∃ B',B.take n0 <+: B'∧Slots N (st.ordC n0 M).fr B' a∧Mem w0 bs (st.ordC n0 M).H B' w:=by
  have hlt:(B.take n0).length=n0:=by simp;omega
  have hjs:∀ j ∈ ordCJ n0 M st,j < st.H.length:=fun j hj=>by
    have:=(List.mem_filter.1 hj).2
    simp only [Bool.and_eq_true,Nat.blt_eq] at this
    exact this.2
  unfold St.ordC
  generalize ordCJ n0 M st=js at hjs
  refine ⟨B.take n0++js.map (fun j=>B.getD j undef),List.prefix_append _ _,?_,?_⟩
  all_goals
    have hρ:∀ (k i:Nat),ordN n0 js k=some i→(B.take n0++js.map (fun j=>B.getD j undef))[i]?=B[k]?:=by
      intro k i e
      unfold ordN at e
      split at e
      · rename_i i' hi
        simp only [Option.some.injEq] at e
        subst e
        obtain ⟨-,h2⟩:=posOf_get hi
        rw [Nat.sub_zero] at h2
        have hk:=hjs k (List.mem_of_getElem? h2)
        rw [← hm.sat.len] at hk
        rw [List.getElem?_append_right (by omega),hlt,Nat.add_sub_cancel_left,List.getElem?_map,h2]
        simp [List.getD_eq_getElem?_getD,List.getElem?_eq_getElem hk]
      · cases hb:Nat.blt k n0
        · rw [hb] at e;cases e
        · rw [hb,cond_true,Option.some.injEq] at e
          subst e
          rw [Nat.blt_eq] at hb
          rw [List.getElem?_append_left (by omega),List.getElem?_take,if_pos hb]
  · refine ⟨hsl.size,hsl.defers,fun t s e=>?_⟩
    have e:=look_each e
    unfold ordCS at e
    split at e
    · rename_i s0 hs0
      rw [SV.mapL_to hρ e]
      exact hsl.slot t s0 hs0
    · cases e
  · have hlen:(ordCH n0 js st.H).length=(B.take n0++js.map (fun j=>B.getD j undef)).length:=by
      unfold ordCH
      rw [List.length_append,List.length_append,hlt]
      simp
    have get : ∀ {i:Nat} {x:Blk},(ordCH n0 js st.H)[i]?=some x→x = .gone ∨ ∃ k y,ordN n0 js k=some i∧st.H[k]?=some y∧x=locB (ordN n0 js) y:=by
      intro i x hi
      unfold ordCH at hi
      have one:∀ {k:Nat},x=ordCB n0 js i k st.H[k]?→x = .gone ∨ ∃ k y,ordN n0 js k=some i∧st.H[k]?=some y∧x=locB (ordN n0 js) y:=by
        intro k e
        unfold ordCB at e
        split at e
        · rename_i b hb
          cases hc:isAt i (ordN n0 js k)
          · rw [hc] at e;exact .inl e
          · rw [hc,cond_true] at e
            exact .inr ⟨k,b,isAt_iff.1 hc,hb,e⟩
        · exact .inl e
      by_cases hlo:i < n0
      · rw [List.getElem?_append_left (by simpa using hlo),List.getElem?_map,Option.map_eq_some_iff] at hi
        obtain ⟨k,hk,rfl⟩:=hi
        rw [List.getElem?_range hlo,Option.some.injEq] at hk
        subst hk
        exact one rfl
      · rw [List.getElem?_append_right (by simpa using hlo),List.getElem?_map,Option.map_eq_some_iff] at hi
        obtain ⟨p,hp,rfl⟩:=hi
        simp only [List.length_map,List.length_range] at hp
        rw [List.getElem?_zipIdx,Option.map_eq_some_iff] at hp
        obtain ⟨j,hj,rfl⟩:=hp
        refine one (k:=j) ?_
        simp only [Nat.zero_add]
        rw [show n0+(i - n0)=i by omega]
    have ex:∀ i b,ExBlk (ordCH n0 js st.H) (B.take n0++js.map (fun j=>B.getD j undef)) i b→∃ k,ordN n0 js k=some i∧ExBlk st.H B k b:=by
      rintro i b ⟨x,u,h1,h2,h3,h4⟩
      rcases get h1 with rfl | ⟨k,y,g1,g2,rfl⟩
      · cases h2
      · exact ⟨k,g1,y,u,g2,locB_excl h2,by rw [← hρ k i g1];exact h3,h4⟩
    have rd:∀ i b,RdBlk (ordCH n0 js st.H) (B.take n0++js.map (fun j=>B.getD j undef)) i b→∃ k,ordN n0 js k=some i∧RdBlk st.H B k b:=by
      rintro i b ⟨n,sz,f,u,h1,h2,h3,h4,h5⟩
      rcases get h1 with e | ⟨k,y,g1,g2,e⟩
      · cases e
      · exact ⟨k,g1,n,sz,f,u,by rw [g2,locB_row e.symm],h2,h3,by rw [← hρ k i g1];exact h4,h5⟩
    refine ⟨⟨hlen.symm,fun i x u hi hu=>?_,fun i j b h1 h2=>?_,fun i j b h1 h2=>?_⟩,hm.keeps,fun i b h1=>?_⟩
    · rcases get hi with rfl | ⟨k,y,g1,g2,rfl⟩
      · trivial
      · rw [hρ k i g1] at hu
        exact locB_sat hρ (hm.sat.blk k y u g2 hu)
    · obtain ⟨k,k1,k2⟩:=ex _ _ h1
      obtain ⟨l,l1,l2⟩:=ex _ _ h2
      have:=hm.sat.sep _ _ _ k2 l2
      subst this
      rw [k1,Option.some.injEq] at l1
      exact l1
    · obtain ⟨k,k1,k2⟩:=ex _ _ h1
      obtain ⟨l,l1,l2⟩:=rd _ _ h2
      exact hm.sat.far _ _ _ k2 l2
    · obtain ⟨k,k1,k2⟩:=ex _ _ h1
      exact hm.good _ _ k2
def firstOkB (md:Region.Mode) (E:Oper→Bool) (ops:Array Oper) (listed:Array Bool) (i:Nat):Bool:=match ops[i]? with
  | some oi=>(List.range ops.size).all fun j=>Nat.beq j i || listed.getD j true || (match ops[j]? with
      | some oj=>(oi.apart ops oj && !(E oi && E oj)) || depB md ops i ops.size j
      | none=>true)
  | none=>false
def allSome:List (Option (List (List Nat)))→Option (List (List Nat))
  | []=>some []
  | o :: l=>match o,allSome l with
    | some x,some y=>some (x++y)
    | _,_=>none
def orders (md:Region.Mode) (E:Oper→Bool) (ops:Array Oper):Nat→Array Bool→Option (List (List Nat))
  | 0,listed=>bif (Region.ready md ops listed).isEmpty then some [[]] else none
  | fuel+1,listed=>match (Region.ready md ops listed).find? (firstOkB md E ops listed) with
    | some i=>(orders md E ops fuel (listed.setIfInBounds i true)).map fun l=>l.map (i :: ·)
    | none=>bif (Region.ready md ops listed).isEmpty then none else allSome ((Region.ready md ops listed).map fun i=>(orders md E ops fuel (listed.setIfInBounds i true)).map fun l=>l.map (i :: ·))
theorem allSome_mem:∀ {l:List (Option (List (List Nat)))} {L:List (List Nat)},allSome l=some L→∀ o ∈ l,∃ x,o=some x∧∀ y ∈ x,y ∈ L
  | [],_,_,o,ho=>by cases ho
  | o :: l,L,h,p,hp=>by
    unfold allSome at h
    split at h
    · rename_i x y hy
      simp only [Option.some.injEq] at h
      subst h
      rcases List.mem_cons.1 hp with rfl | hp
      · exact ⟨x,rfl,fun z hz=>List.mem_append_left _ hz⟩
      · obtain ⟨x',e,hx⟩:=allSome_mem hy p hp
        exact ⟨x',e,fun z hz=>List.mem_append_right _ (hx z hz)⟩
    · cases h
theorem orders_ne {md:Region.Mode} {E:Oper→Bool} {ops:Array Oper}:∀ {fuel:Nat} {listed:Array Bool} {L:List (List Nat)},orders md E ops fuel listed=some L→L ≠ []
  | 0,listed,L,h=>by
    unfold orders at h
    cases hb:(Region.ready md ops listed).isEmpty
    · rw [hb] at h;cases h
    · rw [hb,cond_true,Option.some.injEq] at h;subst h;simp
  | fuel + 1,listed,L,h=>by
    unfold orders at h
    split at h
    · rw [Option.map_eq_some_iff] at h
      obtain ⟨l,hl,rfl⟩:=h
      simpa using orders_ne hl
    · cases hb:(Region.ready md ops listed).isEmpty
      · rw [hb,cond_false] at h
        cases hr:Region.ready md ops listed with
        | nil=>rw [hr] at hb;cases hb
        | cons i r =>
          rw [hr] at h
          obtain ⟨x,hx,hxL⟩:=allSome_mem h _ (List.mem_map.2 ⟨i,List.mem_cons_self ..,rfl⟩)
          rw [Option.map_eq_some_iff] at hx
          obtain ⟨l,hl,rfl⟩:=hx
          cases l with
          | nil=>exact absurd rfl (orders_ne hl)
          | cons o l=>exact List.ne_nil_of_mem (hxL _ (List.mem_map.2 ⟨o,List.mem_cons_self ..,rfl⟩))
      · rw [hb] at h;cases h
theorem T.ok_all {α β:Type} {Q:β→α→Prop} {t:T α}:∀ {l:List β},l ≠ []→(∀ b ∈ l,t.ok (Q b))→t.ok fun a=>∀ b ∈ l,Q b a
  | [],h,_=>absurd rfl h
  | [b],_,h=>T.ok_mono (fun a ha b' hb'=>by rw [List.mem_singleton.1 hb'];exact ha) (h b (List.mem_cons_self ..))
  | b :: c :: l,_,h=>T.ok_mono (fun a ha b' hb'=>by
      rcases List.mem_cons.1 hb' with rfl | hb'
      · exact ha.1
      · exact ha.2 b' hb') (T.ok_both (h b (List.mem_cons_self ..)) (T.ok_all (l:=c :: l) (by simp) fun b' hb'=>h b' (List.mem_cons_of_mem _ hb')))
section
variable (P:Program) (S:Tab) (G:GTab) (N:Nat)
def runOrd (md:Region.Mode) (E:Oper→Bool) (V:Nat→Nat→Bool) (ops:Array Oper):List Nat→St→T St
  | [],st=>.leaf st
  | i :: l,st=>match ops[i]? with
    | some o=>(stepA P S G N md E V ops i o st).bind (runOrd md E V ops l)
    | none=>.stuck 123
end
theorem orders_AG {P:Program} {S:Tab} {G:GTab} {N:Nat} {md:Region.Mode} {E:Oper→Bool} {V:Nat→Nat→Bool} {ops:Array Oper} {QQ:St→Prop} (hQ:∀ st st',SEq st st'→QQ st→QQ st'):∀ (fuel:Nat) (listed:Array Bool) (st:St) (L:List (List Nat)),orders md E ops fuel listed=some L→DC md ops listed →
    (∀ o ∈ L,(runOrd P S G N md E V ops o st).ok QQ)→AG P S G N md E V ops QQ fuel listed st
  | 0, listed,st,L,h,hD,hL=>by
    unfold orders at h
    cases hb:(Region.ready md ops listed).isEmpty
    · rw [hb] at h;cases h
    · rw [hb,cond_true,Option.some.injEq] at h
      subst h
      exact ⟨by simpa using hb,hL [] (List.mem_cons_self ..)⟩
  | fuel + 1,listed,st,L,h,hD,hL=>by
    have one:∀ (i:Nat) (oi:Oper) (l:List (List Nat)),ops[i]?=some oi→i ∈ Region.ready md ops listed→orders md E ops fuel (listed.setIfInBounds i true)=some l→(∀ o ∈ l,(i :: o) ∈ L)→(stepA P S G N md E V ops i oi st).ok (AG P S G N md E V ops QQ fuel (listed.setIfInBounds i true)):=by
      intro i oi l hi hr hl hin
      obtain ⟨-,oi',hoi',hall⟩:=mem_ready.1 hr
      rw [hi] at hoi'
      simp only [Option.some.injEq] at hoi'
      subst hoi'
      have h2:(stepA P S G N md E V ops i oi st).ok fun st'=>∀ o ∈ l,(runOrd P S G N md E V ops o st').ok QQ:=T.ok_all (orders_ne hl) fun o ho=>by
        have:=hL (i :: o) (hin o ho)
        simp only [runOrd,hi] at this
        exact T.ok_bind this
      exact T.ok_mono (fun st' h'=>orders_AG hQ fuel _ st' l hl (hD.set hi hall) h') h2
    unfold orders at h
    split at h
    · rename_i i hf
      rw [Option.map_eq_some_iff] at h
      obtain ⟨l,hl,rfl⟩:=h
      have hr:=List.mem_of_find?_eq_some hf
      have hok:=List.find?_some hf
      obtain ⟨-,oi,hi,hall⟩:=mem_ready.1 hr
      refine AG_first hQ hi ops.size fuel listed st (fun j oj hj hne hun=>?_) hD hr (one i oi l hi hr hl fun o ho=>List.mem_map.2 ⟨o,ho,rfl⟩)
      simp only [firstOkB,hi,List.all_eq_true] at hok
      have:=hok j (List.mem_range.2 (Array.getElem?_eq_some_iff.1 hj).1)
      simp only [hj,hun,Bool.or_false,Bool.or_eq_true,Bool.and_eq_true,Bool.not_eq_true'] at this
      rcases this with this | ⟨h1,h2⟩ | h3
      · exact absurd (Nat.eq_of_beq_eq_true this) hne
      · exact .inr ⟨h1,fun ⟨a,b⟩=>by rw [a,b] at h2;cases h2⟩
      · exact .inl h3
    · cases hb:(Region.ready md ops listed).isEmpty
      · rw [hb,cond_false] at h
        refine ⟨fun h0=>(by rw [h0] at hb;cases hb),fun i hi oi hoi=>?_⟩
        obtain ⟨x,hx,hxL⟩:=allSome_mem h _ (List.mem_map.2 ⟨i,hi,rfl⟩)
        rw [Option.map_eq_some_iff] at hx
        obtain ⟨l,hl,rfl⟩:=hx
        exact one i oi l hoi hi hl fun o ho=>hxL _ (List.mem_map.2 ⟨o,ho,rfl⟩)
      · rw [hb] at h;cases h
inductive Spot where
  | slot (t:Nat) (path:List Nat)
  | cell (k i:Nat) (path:List Nat)
def SV.numAt:List Nat→SV→Option (Int×(Int→SV))
  | [],.v (.int k z)=>some (z,fun c=>.c (.int k c))
  | [],.v (.bool b)=>some (bif b then 1 else 0,fun c=>match c with | 1=>.tt | _=>.ff)
  | i :: p,.agg l=>match l[i]? with
    | some s=>(match SV.numAt p s with
      | some (z,f)=>some (z,fun c=>.agg (l.set i (f c)))
      | none=>none)
    | none=>none
  | _,_=>none
theorem tos_setN {B:List Value} {s':SV}:∀ (l:List SV) (i:Nat) (s:SV),l[i]?=some s→s'.to B=s.to B→SV.tos B (l.set i s')=SV.tos B l
  | [],_,_,h,_=>by simp at h
  | t :: l,0,s,h,e=>by
    simp only [List.getElem?_cons_zero,Option.some.injEq] at h;subst h
    simp only [List.set_cons_zero,SV.tos,e]
  | t :: l,i+1,s,h,e=>by
    simp only [List.getElem?_cons_succ] at h
    simp only [List.set_cons_succ,SV.tos,tos_setN l i s h e]
theorem numAt_to {B:List Value}:∀ {p:List Nat} {s:SV} {z:Int} {f:Int→SV},s.numAt p=some (z,f)→(f z).to B=s.to B
  | [],s,z,f,h=>by
    unfold SV.numAt at h
    split at h
    · simp only [Option.some.injEq,Prod.mk.injEq] at h
      obtain ⟨rfl,rfl⟩:=h
      rfl
    · rename_i b _
      simp only [Option.some.injEq,Prod.mk.injEq] at h
      obtain ⟨rfl,rfl⟩:=h
      cases b <;> rfl
    · rename_i e;cases e
    · cases h
  | i :: p,s,z,f,h=>by
    unfold SV.numAt at h
    split at h
    · rename_i e;cases e
    · rename_i e;cases e
    · rename_i i' p' l e
      simp only [List.cons.injEq] at e
      obtain ⟨rfl,rfl⟩:=e
      split at h
      · rename_i s' hs
        split at h
        · rename_i z' f' hf
          simp only [Option.some.injEq,Prod.mk.injEq] at h
          obtain ⟨rfl,rfl⟩:=h
          simp only [SV.to,tos_setN l i s' hs (numAt_to hf)]
        · cases h
      · cases h
    · cases h
def casesS (z:Int) (f:Int→St) (st:St):List Int→T St
  | []=>.leaf st
  | [c]=>.need (z=c) (.leaf (f c))
  | c :: cs=>.ite (decide (z=c)) (.leaf (f c)) (casesS z f st cs)
def splitS (sp:Spot) (cs:List Int) (st:St):T St:=match sp with
  | .slot t p=>(match look st.fr t with
    | some s=>(match s.numAt p with
      | some (z,f)=>casesS z (fun c=>⟨(t,some (f c)) :: st.fr,st.H⟩) st cs
      | none=>.leaf st)
    | none=>.leaf st)
  | .cell k i p=>(match st.H[k]? with
    | some (.own cells)=>(match cells[i]? with
      | some s=>(match s.numAt p with
        | some (z,f)=>casesS z (fun c=>⟨st.fr,st.H.set k (.own (cells.set i (f c)))⟩) st cs
        | none=>.leaf st)
      | none=>.leaf st)
    | _=>.leaf st)
def splitAll:List (Nat×Spot×List Int)→Nat→St→T St
  | [],_,st=>.leaf st
  | (i,sp,cs) :: l,id,st=>bif Nat.beq i id then (splitS sp cs st).bind (splitAll l id) else splitAll l id st
theorem casesS_ok {z:Int} {f:Int→St} {st:St} {Qs:St→Prop}:∀ {cs:List Int},(casesS z f st cs).ok Qs→Qs st ∨ Qs (f z)
  | [],h=>.inl h
  | [c],h=>by
    obtain ⟨e,h⟩:=h
    subst e;exact .inr h
  | c :: d :: cs,h=>by
    by_cases e:z=c
    · subst e;exact .inr (h.1 (by simp))
    · exact casesS_ok (cs:=d :: cs) (h.2 (by simpa using e))
theorem splitS_ok {N:Nat} {w0:World} {bs:List Nat} {sp:Spot} {cs:List Int} {st:St} {B:List Value} {a:Act} {w:World} {Qs:St→Prop} (hq:(splitS sp cs st).ok Qs) (h:Slots N st.fr B a) (hm:Mem w0 bs st.H B w):∃ st',Qs st'∧Slots N st'.fr B a∧Mem w0 bs st'.H B w:=by
  unfold splitS at hq
  split at hq
  · rename_i t p
    split at hq
    · rename_i s hs
      split at hq
      · rename_i z f hf
        rcases casesS_ok hq with g | g
        · exact ⟨st,g,h,hm⟩
        · refine ⟨_,g,⟨h.size,h.defers,fun u s' e=>?_⟩,hm⟩
          simp only [look] at e
          cases hb:Nat.beq t u
          · rw [hb,cond_false] at e;exact h.slot u s' e
          · rw [hb,cond_true,Option.some.injEq] at e
            have:=Nat.eq_of_beq_eq_true hb
            subst this
            subst e
            rw [numAt_to hf]
            exact h.slot t s hs
      · exact ⟨st,hq,h,hm⟩
    · exact ⟨st,hq,h,hm⟩
  · rename_i k i p
    split at hq
    · rename_i cells hk
      split at hq
      · rename_i s hs
        split at hq
        · rename_i z f hf
          rcases casesS_ok hq with g | g
          · exact ⟨st,g,h,hm⟩
          · refine ⟨_,g,h,?_⟩
            obtain ⟨u,hu⟩:=hm.sat.getB hk
            obtain ⟨b,vs,rfl,h2,h3⟩:=hm.sat.blk k _ u hk hu
            exact hm.upd hk rfl hu ⟨rfl,rfl,rfl,Nat.le_refl _,fun _ _ _=>rfl⟩ rfl ⟨b,vs,rfl,by rw [tos_setN cells i s hs (numAt_to hf)];exact h2,h3⟩
        · exact ⟨st,hq,h,hm⟩
      · exact ⟨st,hq,h,hm⟩
    · exact ⟨st,hq,h,hm⟩
theorem splitAll_ok {N:Nat} {w0:World} {bs:List Nat} {B:List Value} {a:Act} {w:World} {Qs:St→Prop}:∀ {l:List (Nat×Spot×List Int)} {id:Nat} {st:St},(splitAll l id st).ok Qs→Slots N st.fr B a→Mem w0 bs st.H B w→∃ st',Qs st'∧Slots N st'.fr B a∧Mem w0 bs st'.H B w
  | [],_,st,hq,h,hm=>⟨st,hq,h,hm⟩
  | (i,sp,cs) :: l,id,st,hq,h,hm=>by
    unfold splitAll at hq
    cases hb:Nat.beq i id
    · rw [hb,cond_false] at hq;exact splitAll_ok hq h hm
    · rw [hb,cond_true] at hq
      obtain ⟨st1,q1,h1,m1⟩:=splitS_ok (T.ok_bind hq) h hm
      exact splitAll_ok q1 h1 m1
structure Cfg where
  S:Tab
  G:GTab
  E:Oper→Bool
  X:List (Nat×Spot×List Int)
  M:List (Nat×List Nat)
structure CfgOk (P:Program) (C:Cfg):Prop where
  S:TabOk P C.S
  G:GOk P C.G
def effE (P:Program) (fs:List Nat) (o:Oper):Bool :=
  match o.op with
  | .box .. | .alloc _ | .store .. | .buildSlice .. | .makeSlice .. | .mapUpdate .. | .makeMap ..=>true
  | .slice t ..=>match P.underlying t with | some .string=>false | _=>true
  | .call c=>match c.callee with
    | .builtin .append=>true
    | .builtin .delete=>true
    | .value (.func f)=>fs.any (Nat.beq f)
    | .builtin _=>false
    | _=>true
  | .convert src dst _=>match P.underlying src,P.underlying dst with
    | some .string,some (.slice _)=>true
    | some (.slice _),some .string=>true
    | _,_=>false
  | _=>false
def T.gather {α β:Type} (f:α→List β):T α→List β
  | .leaf a=>f a
  | .ite _ t e=>t.gather f++e.gather f
  | .need _ t=>t.gather f
  | .stuck _=>[]
section
variable {P:Program} {C:Cfg} {N:Nat}
def isLoop:Code→Bool
  | .loop _=>true
  | _=>false
def loopBody:Code→Code
  | .loop b=>b
  | c=>c
theorem isLoop_eq {c:Code} (h:isLoop c=true):c = .loop (loopBody c):=by
  cases c <;> first | rfl | cases h
inductive Ex where
  | normal
  | exit (id:Nat)
  | ret
def Ex.to:Ex→Exit
  | .normal=>.normal
  | .exit id=>.exit id
  | .ret=>.ret
section
variable (P:Program) (C:Cfg) (L:Nat→St→Option (T (Ex×St))) (N:Nat)
def pickPol (ops:Array Oper) (i:Nat):Bool:=ops.toList.any fun o=>match o.guard with | some (j,b)=>Nat.beq j i && b | none=>false
def T.pick {α:Type} (b:Bool):T α→Option α
  | .leaf a=>some a
  | .ite _ t e=>bif b then (match t.pick b with | some x=>some x | none=>e.pick b) else (match e.pick b with | some x=>some x | none=>t.pick b)
  | .need _ t=>t.pick b
  | .stuck _=>none
def scanOps (ops:Array Oper):List Oper→Nat→St→List (Nat×Nat)
  | [],_,_=>[]
  | o :: rest,i,st=>match wantedS ops st o with
    | some true=>T.gather (fun p=>(p.2.touch st.H.length).map (fun q=>(i,q))) (evalE P C.S C.G (st.view o) o)++(match T.pick (pickPol ops i) ((evalE P C.S C.G (st.view o) o).bind (putR N (isGuard ops i) o.dst st)) with
      | some st'=>scanOps ops rest (i+1) st'
      | none=>[])
    | some false=>scanOps ops rest (i+1) (st.put o.dst (.v undef))
    | none=>[]
def visOf (ops:Array Oper) (W:List (Nat×Nat)) (j q:Nat):Bool :=
  W.all fun p=>!Nat.beq p.2 q || Nat.beq p.1 j || maskDep .any ops p.1 j || maskDep .any ops j p.1
def visAll (ops:Array Oper) (W:List (Nat×Nat)) (n0 j q:Nat):Bool :=
  bif Nat.blt q n0 then visOf ops W j q else (List.range ops.size).all fun i=>Nat.beq i j || !effAt C.E ops i || maskDep .any ops i j || maskDep .any ops j i
def agree (t:T St) (s:St):Prop:=t.ok fun x=>x=s
def planNeeds (V:Nat→Nat→Bool) (ops:Array Oper) (st s1:St) (n0:Nat) (ks:List Nat):List (List Nat)→T St
  | []=>.leaf s1
  | o :: l=>.need (agree ((runOrd P C.S C.G N .any C.E V ops o st).bind fun s2=>.leaf (s2.ordC n0 ks)) s1) (planNeeds V ops st s1 n0 ks l)
def runPlan (V:Nat→Nat→Bool) (ops:Array Oper) (st:St) (ks:List Nat):List (List Nat)→T St
  | []=>.stuck 124
  | o :: l=>(runOrd P C.S C.G N .any C.E V ops o st).bind fun s1=>planNeeds P C N V ops st (s1.ordC st.H.length ks) st.H.length ks l
def keepOf (id:Nat):List (Nat×List Nat)→Option (List Nat)
  | []=>none
  | p :: l=>bif Nat.beq p.1 id then some p.2 else keepOf id l
def runRegion (id:Nat) (ops:Array Oper) (draw:Bool) (st:St):T St :=
  bif draw then match keepOf id C.M with
    | some ks=>(match orders .any C.E ops ops.size (Array.replicate ops.size false) with
      | some L=>runPlan P C N (visAll C ops (scanOps P C N ops ops.toList 0 st) st.H.length) ops st ks L
      | none=>.stuck 125)
    | none=>runOpsD P C.S C.G N .any C.E (visOf ops (scanOps P C N ops ops.toList 0 st)) ops ops.toList 0 st else runOps P C.S C.G N ops ops.toList 0 st
def runC:Code→St→T (Ex×St)
  | .skip,st=>.leaf (.normal,st)
  | .region id ops draw,st=>(runRegion P C N id ops draw st).bind fun st=>(splitAll C.X id st).bind fun st=>.leaf (.normal,st)
  | .seq a b,st=>(runC a st).bind fun r=>match r.1 with
    | .normal=>runC b r.2
    | _=>.leaf r
  | .cond c a b,st=>match st.val c with
    | some .tt=>runC a st
    | some .ff=>runC b st
    | some (.v (.bool x))=>.ite x (runC a (st.knows c .tt)) (runC b (st.knows c .ff))
    | _=>.stuck 36
  | .block id c,st=>bif isLoop c then (match L id st with | some t=>t | none=>.stuck (3000+id)) else
    (runC c st).bind fun r=>match r.1 with
      | .exit j=>bif Nat.beq j id then .leaf (.normal,r.2) else .leaf r
      | _=>.leaf r
  | .exit id,st=>.leaf (.exit id,st)
  | .ret,st=>.leaf (.ret,st)
  | _,_=>.stuck 37
end
def lexAll (C:Cfg):Code→Bool
  | .region id ops draw=>bif draw then match keepOf id C.M with | some _=>true | none=>lexD .any C.E ops ops.size 0 (Array.replicate ops.size false) else true
  | .seq a b=>lexAll C a && lexAll C b
  | .cond _ a b=>lexAll C a && lexAll C b
  | .block _ c=>bif isLoop c then true else lexAll C c
  | _=>true
def loopsOf:Code→List (Nat×Code)
  | .seq a b=>loopsOf a++loopsOf b
  | .cond _ a b=>loopsOf a++loopsOf b
  | .block id c=>bif isLoop c then [(id,loopBody c)] else loopsOf c
  | _=>[]
theorem plan_needs {P:Program} {C:Cfg} {N:Nat} {V:Nat→Nat→Bool} {ops:Array Oper} {st s1:St} {n0:Nat} {ks:List Nat} {Qs:St→Prop}:∀ {l:List (List Nat)},(planNeeds P C N V ops st s1 n0 ks l).ok Qs→Qs s1∧∀ o ∈ l,(runOrd P C.S C.G N .any C.E V ops o st).ok fun s2=>s2.ordC n0 ks=s1
  | [],h=>⟨h,fun o ho=>by cases ho⟩
  | o :: l,h=>by
    obtain ⟨h1,h2⟩:=h
    obtain ⟨h3,h4⟩:=plan_needs h2
    refine ⟨h3,fun o' ho'=>?_⟩
    rcases List.mem_cons.1 ho' with rfl | ho'
    · exact T.ok_bind h1
    · exact h4 o' ho'
theorem plan_all {P:Program} {C:Cfg} {N:Nat} {V:Nat→Nat→Bool} {ops:Array Oper} {st:St} {ks:List Nat} {Qs:St→Prop} {L:List (List Nat)} (h:(runPlan P C N V ops st ks L).ok Qs):∀ o ∈ L,(runOrd P C.S C.G N .any C.E V ops o st).ok fun s=>Qs (s.ordC st.H.length ks):=by
  cases L with
  | nil=>exact h.elim
  | cons o l =>
    have h:=T.ok_bind h
    intro o' ho'
    rcases List.mem_cons.1 ho' with rfl | ho'
    · exact T.ok_mono (fun s hs=>(plan_needs hs).1) h
    · obtain ⟨s1,hs1⟩:=T.ok_leaf h
      obtain ⟨h1,h2⟩:=plan_needs hs1
      exact T.ok_mono (fun s hs=>by rw [hs];exact h1) (h2 o' ho')
def RunOk (P:Program) (N:Nat) (c:Code) (st:St) (t:T (Ex×St)):Prop :=
  ∀ (w0:World) (bs:List Nat) (pre B:List Value) (a:Act) (w:World) (Qs:Ex×St→Prop) (Q:Exit→Act→World→Prop),pre <+: B→Slots N st.fr B a→Mem w0 bs st.H B w→t.ok Qs →
    (∀ r B' a' w',Qs r→pre <+: B'→Slots N r.2.fr B' a'→Mem w0 bs r.2.H B' w'→Q r.1.to a' w')→c.wp P Q a w
theorem region_ok (hC:CfgOk P C) (hP:P.follows .mixedOrders=true) (id:Nat) (ops:Array Oper) (draw:Bool) (st:St) (hlex:lexAll C (.region id ops draw)=true):RunOk P N (.region id ops draw) st ((runRegion P C N id ops draw st).bind fun st=>(splitAll C.X id st).bind fun st=>.leaf (.normal,st)):=by
  intro w0 bs pre B a w Qs Q hp h hm hq hQ
  have hq:=T.ok_bind hq
  have hQ2:∀ (st:St) B a w,((splitAll C.X id st).bind fun st=>T.leaf (Ex.normal,st)).ok Qs→pre <+: B→Slots N st.fr B a→Mem w0 bs st.H B w→Q .normal a w:=by
    intro st B a w hqs hp h hm
    obtain ⟨st',q,h',hm'⟩:=splitAll_ok (T.ok_bind hqs) h hm
    exact hQ (.normal,st') B a w q hp h' hm'
  unfold runRegion at hq
  cases draw
  · rw [cond_false] at hq
    exact wp_region_list (runOps_ok hC.S hC.G (fun st B a w hqs hp h hm=>hQ2 st B a w hqs hp h hm) ops.toList 0 st B a w hp h hm hq)
  · rw [cond_true] at hq
    cases hM:keepOf id C.M with
    | none =>
      rw [hM] at hq
      simp only [lexAll,cond_true,hM] at hlex
      have hsz:ops.toList.length=ops.size:=by simp
      have hA:=AG_lex (P:=P) (S:=C.S) (G:=C.G) (N:=N) (E:=C.E) (V:=visOf ops (scanOps P C N ops ops.toList 0 st)) (md:=.any) (QQ:=fun st'=>∃ st2,SEq st2 st'∧((splitAll C.X id st2).bind fun st=>T.leaf (Ex.normal,st)).ok Qs) (fun a b hab ⟨c,h1,h2⟩=>⟨c,⟨fun t=>(h1.1 t).trans (hab.1 t),h1.2.trans hab.2⟩,h2⟩)
        ops.toList 0 (Array.replicate ops.size false) st (by simp) (by rw [hsz];exact hlex) (fun j o _ hl=>by
          rw [Array.getD_eq_getD_getElem?,Array.getElem?_replicate] at hl
          split at hl <;> cases hl) (T.ok_mono (fun a ha=>⟨a,SEq.refl a,ha⟩) hq)
      rw [hsz] at hA
      refine wp_region_any hP (AG_sound hC.S hC.G (pre:=pre) (fun st' B' a' w' ⟨st2,he,hqs⟩ hp' h' hm'=>?_) _ _ st B a _ hp h hm.drew hA)
      exact hQ2 st2 B' a' w' hqs hp' ⟨h'.size,h'.defers,fun t s e=>h'.slot t s (by rw [← he.1 t];exact e)⟩ (by rw [he.2];exact hm')
    | some ks =>
      rw [hM] at hq
      simp only at hq
      split at hq
      · rename_i L hL
        have hlen:B.length=st.H.length:=hm.sat.len
        have hB0:B.take st.H.length=B:=List.take_of_length_le (by omega)
        have hA:=orders_AG (P:=P) (S:=C.S) (G:=C.G) (N:=N) (E:=C.E) (V:=visAll C ops (scanOps P C N ops ops.toList 0 st) st.H.length) (md:=.any) (ops:=ops) (QQ:=fun st'=>((splitAll C.X id (st'.ordC st.H.length ks)).bind fun st=>T.leaf (Ex.normal,st)).ok Qs) (fun a b hab h1=>by rw [← ordC_congr hab];exact h1)
          ops.size (Array.replicate ops.size false) st L hL (fun j o _ hl=>by
            rw [Array.getD_eq_getD_getElem?,Array.getElem?_replicate] at hl
            split at hl <;> cases hl) (plan_all hq)
        refine wp_region_any hP (AG_sound hC.S hC.G (pre:=B) (fun st' B' a' w' hqs hp' h' hm'=>?_) _ _ st B a _ (List.prefix_refl _) h hm.drew hA)
        have hnB:st.H.length≤B'.length:=by have:=hp'.length_le;omega
        obtain ⟨B2,p2,h2,m2⟩:=ordC_ok (M:=ks) h' hm' hnB
        have hBt:B'.take st.H.length=B:=by
          obtain ⟨l,rfl⟩:=hp'
          rw [← hlen,List.take_left]
        rw [hBt] at p2
        exact hQ2 _ B2 a' w' hqs (hp.trans p2) h2 m2
      · exact hq.elim
theorem runC_ok (hC:CfgOk P C) (hP:P.follows .mixedOrders=true) {L:Nat→St→Option (T (Ex×St))}:∀ (c:Code),lexAll C c=true→(∀ id body,(id,body) ∈ loopsOf c→∀ st t,L id st=some t→RunOk P N (.block id (.loop body)) st t)→∀ st,RunOk P N c st (runC P C L N c st)
  | .skip,_,_,st=>fun w0 bs pre B a w Qs Q hp h hm hq hQ=>wp_skip (hQ (.normal,st) B a w hq hp h hm)
  | .region id ops draw,hlex,_,st=>by simp only [runC];exact region_ok hC hP id ops draw st hlex
  | .seq x y,hlex,hL,st=>fun w0 bs pre B a w Qs Q hp h hm hq hQ=>by
    simp only [runC] at hq
    refine wp_seq (runC_ok hC hP x (by simp only [lexAll,Bool.and_eq_true] at hlex;exact hlex.1) (fun id body hm=>hL id body (by simp only [loopsOf];exact List.mem_append_left _ hm)) st w0 bs pre B a w _ _ hp h hm (T.ok_bind hq) fun r B' a' w' hq' hp' h' hm'=>?_)
    obtain ⟨e,st'⟩:=r
    cases e with
    | normal=>exact runC_ok hC hP y (by simp only [lexAll,Bool.and_eq_true] at hlex;exact hlex.2) (fun id body hm=>hL id body (by simp only [loopsOf];exact List.mem_append_right _ hm)) st' w0 bs pre B' a' w' Qs Q hp' h' hm' hq' hQ
    | exit id=>exact hQ _ B' a' w' hq' hp' h' hm'
    | ret=>exact hQ _ B' a' w' hq' hp' h' hm'
  | .cond c x y,hlex,hL,st=>fun w0 bs pre B a w Qs Q hp h hm hq hQ=>by
    simp only [runC] at hq
    split at hq
    · rename_i hc
      have hv:=h.val hc
      simp only [SV.to,Option.some.injEq] at hv
      exact wp_cond_true hv.symm (runC_ok hC hP x (by simp only [lexAll,Bool.and_eq_true] at hlex;exact hlex.1) (fun id body hm=>hL id body (by simp only [loopsOf];exact List.mem_append_left _ hm)) st w0 bs pre B a w Qs Q hp h hm hq hQ)
    · rename_i hc
      have hv:=h.val hc
      simp only [SV.to,Option.some.injEq] at hv
      exact wp_cond_false hv.symm (runC_ok hC hP y (by simp only [lexAll,Bool.and_eq_true] at hlex;exact hlex.2) (fun id body hm=>hL id body (by simp only [loopsOf];exact List.mem_append_right _ hm)) st w0 bs pre B a w Qs Q hp h hm hq hQ)
    · rename_i b hc
      have hv:=h.val hc
      simp only [SV.to,Option.some.injEq] at hv
      refine wp_cond_split hv.symm (fun hb=>?_) (fun hb=>?_)
      · exact runC_ok hC hP x (by simp only [lexAll,Bool.and_eq_true] at hlex;exact hlex.1) (fun id body hm=>hL id body (by simp only [loopsOf];exact List.mem_append_left _ hm)) (st.knows c .tt) w0 bs pre B a w Qs Q hp (h.knows (s:=.tt) hc (by rw [hb];rfl)) (by rw [St.knows_H];exact hm) (hq.1 hb) hQ
      · exact runC_ok hC hP y (by simp only [lexAll,Bool.and_eq_true] at hlex;exact hlex.2) (fun id body hm=>hL id body (by simp only [loopsOf];exact List.mem_append_right _ hm)) (st.knows c .ff) w0 bs pre B a w Qs Q hp (h.knows (s:=.ff) hc (by rw [hb];rfl)) (by rw [St.knows_H];exact hm) (hq.2 hb) hQ
    · exact hq.elim
  | .block id c,hlex,hL,st=>fun w0 bs pre B a w Qs Q hp h hm hq hQ=>by
    simp only [runC] at hq
    cases hb:isLoop c
    · rw [hb,cond_false] at hq
      refine wp_block (runC_ok hC hP c (by simpa only [lexAll,hb,cond_false] using hlex) (fun id' body hm=>hL id' body (by simp only [loopsOf,hb,cond_false];exact hm)) st w0 bs pre B a w _ _ hp h hm (T.ok_bind hq) fun r B' a' w' hq' hp' h' hm'=>?_)
      obtain ⟨e,st'⟩:=r
      cases e with
      | normal=>exact hQ _ B' a' w' hq' hp' h' hm'
      | ret=>exact hQ _ B' a' w' hq' hp' h' hm'
      | exit j =>
        simp only [Ex.to,Exit.inBlock]
        simp only at hq'
        by_cases e:j=id
        · subst e
          simp only [Nat.beq_refl,cond_true] at hq'
          rw [if_pos rfl]
          exact hQ _ B' a' w' hq' hp' h' hm'
        · have hbe:Nat.beq j id=false:=by
            cases hbe:Nat.beq j id
            · rfl
            · exact absurd (Nat.eq_of_beq_eq_true hbe) e
          rw [hbe,cond_false] at hq'
          rw [if_neg e]
          exact hQ _ B' a' w' hq' hp' h' hm'
    · rw [hb,cond_true] at hq
      have hc:=isLoop_eq hb
      split at hq
      · rename_i t ht
        rw [hc]
        exact hL id (loopBody c) (by simp [loopsOf,hb]) st t ht w0 bs pre B a w Qs Q hp h hm hq hQ
      · exact hq.elim
  | .exit id,_,_,st=>fun w0 bs pre B a w Qs Q hp h hm hq hQ=>wp_exit (hQ (.exit id,st) B a w hq hp h hm)
  | .ret,_,_,st=>fun w0 bs pre B a w Qs Q hp h hm hq hQ=>wp_ret (hQ (.ret,st) B a w hq hp h hm)
  | .loop _,_,_,_=>fun _ _ _ _ _ _ _ _ _ _ _ hq _=>hq.elim
  | .rangeFunc ..,_,_,_=>fun _ _ _ _ _ _ _ _ _ _ _ hq _=>hq.elim
  | .scope _,_,_,_=>fun _ _ _ _ _ _ _ _ _ _ _ hq _=>hq.elim
  | .label _,_,_,_=>fun _ _ _ _ _ _ _ _ _ _ _ hq _=>hq.elim
  | .goto _,_,_,_=>fun _ _ _ _ _ _ _ _ _ _ _ hq _=>hq.elim
  | .refuse _,_,_,_=>fun _ _ _ _ _ _ _ _ _ _ _ hq _=>hq.elim
def mkTup (l:List SV):SV:=match plains l with | some xs=>.v (.tuple xs.toArray) | none=>.tup l
theorem mkTup_to {B:List Value} {l:List SV} {xs:List Value} (h:SV.tos B l=some xs):(mkTup l).to B=some (.tuple xs.toArray):=by
  unfold mkTup
  split
  · rename_i ys hy
    rw [plains_to hy] at h
    simp only [Option.some.injEq] at h;subst h;rfl
  · simp [SV.to,h]
def resV (P:Program) (st:St):ResultVar→T SV
  | .tmp t=>leafO 50 (look st.fr t)
  | .cell a t=>evalLoad P ⟨st.val,fun k=>st.H[k]?,0⟩ t (.tmp a)
def resL (P:Program) (st:St):List ResultVar→T (List SV)
  | []=>.leaf []
  | r :: l=>(resV P st r).bind fun s=>(resL P st l).bind fun ss=>.leaf (s :: ss)
def oneOr (l:List SV):SV:=match l with | [s]=>s | l=>mkTup l
def resT (P:Program) (fn:Func) (st:St):T SV:=(resL P st fn.results.toList).bind fun l=>.leaf (oneOr l)
def runF (P:Program) (C:Cfg) (L:Nat→St→Option (T (Ex×St))) (fn:Func) (c:Code) (args:List SV) (H:List Blk):T (SV×List Blk) :=
  bif Nat.ble args.length fn.ntmps then
    (runC P C L fn.ntmps c ⟨(args.zipIdx).map fun p=>(p.2,some p.1),H⟩).bind fun r=>match r.1 with
      | .exit _=>.stuck 51
      | _=>(resT P fn r.2).bind fun s=>.leaf (s,r.2.H)
  else .stuck 52
end
end Go.Proofs.YthacfgaacleaeaaGreatDoor.Sym
namespace Go.Proofs.YthacfgaacleaeaaGreatDoor.Sym
open Go.IntKind (i64 u32)
open Go.RowKit
section
variable {P:Program} {C:Cfg} {N:Nat} {w0:World} {bs:List Nat}
def resSem (tmps:Array Value):ResultVar→Sem Value
  | .tmp t=>pure (tmps.getD t undef)
  | .cell a t=>do loadVar t (← asAddr (tmps.getD a undef))
theorem resV_ok {st:St} {B:List Value} {a:Act} {w:World} (h:Slots N st.fr B a) (hm:Mem w0 bs st.H B w) {r:ResultVar} {Qs:SV→Prop} (hq:(resV P st r).ok Qs):∃ s x,Qs s∧s.to B=some x∧(resSem a.tmps r).run P w = .ok x w:=by
  cases r with
  | tmp t =>
    obtain ⟨s,hs,hqs⟩:=leafO_ok hq
    exact ⟨s,_,hqs,h.slot t s hs,rfl⟩
  | cell c t =>
    obtain ⟨s,hqs,x,hx,hr⟩:=evalLoad_ok (P:=P) (w0:=w0) (bs:=bs) (V:=⟨st.val,fun k=>st.H[k]?,0⟩) ⟨fun _ _ e=>h.val e,fun _ _ e=>e⟩ hm (o:=⟨none,.load t (.tmp c),0, "",#[],none⟩) rfl hq
    refine ⟨s,x,hqs,hx,?_⟩
    have h1:=hr w hm
    have hp:∃ p,a.tmps.getD c undef = .pointer (some p):=by
      simp only [resV] at hq
      unfold evalLoad at hq
      split at hq
      · split at hq
        · rename_i k off hk
          have:=h.val (st:=st) (x:=.tmp c) hk
          simp only [SV.to] at this
          split at this
          · simp only [Option.some.injEq] at this;exact ⟨_,this.symm⟩
          · cases this
        · rename_i k sz i off hk
          have:=h.val (st:=st) (x:=.tmp c) hk
          simp only [SV.to] at this
          split at this
          · simp only [Option.some.injEq] at this;exact ⟨_,this.symm⟩
          · cases this
        · exact hq.elim
      · exact hq.elim
    obtain ⟨p,hp⟩:=hp
    have hex:execOp a.eval ⟨none,.load t (.tmp c),0, "",#[],none⟩=(do pure (Next.value (← Instr.loadAt t (.pointer (some p)))):Sem Next):=by
      unfold execOp;simp only [Act.eval,hp]
    unfold Oper.quietAt at h1
    rw [hex] at h1
    have h2:=Sem.run_bind' P (Instr.loadAt t (.pointer (some p))) (fun x=>Sem.pure (Next.value x)) w
    replace h1:Oper.quietUpon P (Mem w0 bs st.H B) w x (((Instr.loadAt t (.pointer (some p))).run P w).andThen fun a w'=>(Sem.pure (Next.value a)).run P w'):=by rw [← h2];exact h1
    simp only [resSem,hp]
    show (loadVar t p).run P w=_
    have e:(Instr.loadAt t (.pointer (some p))).run P w=(loadVar t p).run P w:=rfl
    rw [e] at h1
    cases hl:(loadVar t p).run P w with
    | ok y w' =>
      rw [hl] at h1
      obtain ⟨rfl,rfl⟩:=h1
      rfl
    | halt y w'=>rw [hl] at h1;exact h1.elim
theorem resL_ok {st:St} {B:List Value} {a:Act} {w:World} (h:Slots N st.fr B a) (hm:Mem w0 bs st.H B w):∀ {l:List ResultVar} {Qs:List SV→Prop},(resL P st l).ok Qs→∃ ss xs,Qs ss∧SV.tos B ss=some xs∧(l.mapM (resSem a.tmps)).run P w = .ok xs w
  | [],_,hq=>⟨[],[],hq,rfl,rfl⟩
  | r :: l,_,hq=>by
    obtain ⟨s,x,hq2,hx,hr⟩:=resV_ok h hm (T.ok_bind hq)
    obtain ⟨ss,xs,hq3,hxs,hrs⟩:=resL_ok h hm (T.ok_bind hq2)
    refine ⟨s :: ss,x :: xs,hq3,by simp [SV.tos,hx,hxs],?_⟩
    rw [List.mapM_cons,run_bind_ok hr,run_bind_ok hrs]
    rfl
theorem oneOr_to {B:List Value} {ss:List SV} {xs:List Value} (h:SV.tos B ss=some xs):(oneOr ss).to B=some (if hh:xs.toArray.size=1 then xs.toArray[0] else .tuple xs.toArray):=by
  have hl:=tos_length h
  unfold oneOr
  split
  · rename_i s
    simp only [List.length_cons,List.length_nil] at hl
    obtain ⟨x,rfl⟩:=list1 xs hl
    simp only [SV.tos] at h
    split at h
    · rename_i y ys h1 h2
      simp only [Option.some.injEq,List.cons.injEq] at h
      simp [h1,h.1]
    · cases h
  · rename_i hne
    have:¬ xs.toArray.size=1:=by
      intro e
      have e1:ss.length=1:=by simpa [hl] using e
      match ss,e1 with
      | [s],_=>exact hne s rfl
    rw [dif_neg this]
    exact mkTup_to h
theorem resT_ok {fn:Func} {st:St} {B:List Value} {a:Act} {w:World} (h:Slots N st.fr B a) (hm:Mem w0 bs st.H B w) {Qs:SV→Prop} (hq:(resT P fn st).ok Qs):∃ s x,Qs s∧s.to B=some x∧(results fn a.tmps).run P w = .ok x w:=by
  obtain ⟨ss,xs,hq2,hxs,hr⟩:=resL_ok h hm (T.ok_bind hq)
  refine ⟨_,_,hq2,oneOr_to hxs,?_⟩
  unfold results
  have e:(fn.results.mapM fun
      | .tmp t=>(pure (a.tmps.getD t undef):Sem Value)
      | .cell c t=>do loadVar t (← asAddr (a.tmps.getD c undef)))=List.toArray <$> fn.results.toList.mapM (resSem a.tmps):=by
    rw [Array.mapM_eq_mapM_toList]
    rfl
  have hr2:(List.toArray <$> fn.results.toList.mapM (resSem a.tmps)).run P w = .ok xs.toArray w:=by
    rw [map_eq_pure_bind,run_bind_ok hr]
    rfl
  rw [← e] at hr2
  exact run_bind_ok hr2 _
theorem look_args {B:List Value}:∀ (args:List SV) (vs:List Value) (n:Nat),SV.tos B args=some vs→∀ t s,look ((args.zipIdx n).map fun p=>(p.2,some p.1)) t=some s→n≤t∧∃ x,vs[t - n]?=some x∧s.to B=some x
  | [],_,_,_,_,_,h=>by simp [look] at h
  | u :: args,vs,n,hv,t,s,h=>by
    simp only [SV.tos] at hv
    split at hv
    · rename_i x xs h1 h2
      simp only [Option.some.injEq] at hv
      subst hv
      simp only [List.zipIdx_cons,List.map_cons,look] at h
      by_cases e:n=t
      · subst e
        simp only [Nat.beq_refl,cond_true,Option.some.injEq] at h
        subst h
        exact ⟨Nat.le_refl _,x,by simp,h1⟩
      · have hb:Nat.beq n t=false:=by
          cases hb:Nat.beq n t
          · rfl
          · exact absurd (Nat.eq_of_beq_eq_true hb) e
        rw [hb,cond_false] at h
        obtain ⟨g1,y,g2,g3⟩:=look_args args xs (n+1) h2 t s h
        refine ⟨by omega,y,?_,g3⟩
        rw [show t - n=(t - (n+1))+1 by omega,List.getElem?_cons_succ]
        exact g2
    · cases hv
theorem calls_of_runF (hC:CfgOk P C) (hP:P.follows .mixedOrders=true) {L:Nat→St→Option (T (Ex×St))} {f:FuncId} {fn:Func} {c:Code} (hf:P.funcs[f]?=some fn) (hb:fn.body=some c) (hlex:lexAll C c=true)
    (hL:∀ id body,(id,body) ∈ loopsOf c→∀ st t,L id st=some t→RunOk P fn.ntmps (.block id (.loop body)) st t)
    {args:List SV} {vs:List Value} {H:List Blk} {B:List Value} {w:World} (hv:SV.tos B args=some vs) (hm:Mem w bs H B w) {Qs:SV×List Blk→Prop} (hq:(runF P C L fn c args H).ok Qs) :
    Calls P f vs.toArray w fun e w'=>∃ s H' B' x,Qs (s,H')∧B <+: B'∧s.to B'=some x∧e = .returned x∧Mem w bs H' B' w':=by
  unfold runF at hq
  cases hn:Nat.ble args.length fn.ntmps
  · rw [hn] at hq;exact hq.elim
  · rw [hn,cond_true] at hq
    have hle:=Nat.le_of_ble_eq_true hn
    have hlen:=tos_length hv
    refine calls_of_wp hf hb ?_
    have hsl:Slots fn.ntmps ((args.zipIdx).map fun p=>(p.2,some p.1)) B { tmps:=vs.toArray++Array.replicate (fn.ntmps - vs.toArray.size) undef,defers:=[] }:=by
      refine ⟨by simp;omega,rfl,fun t s h=>?_⟩
      obtain ⟨-,x,g1,g2⟩:=look_args args vs 0 hv t s h
      rw [g2]
      have hlt:t < vs.length:=(List.getElem?_eq_some_iff.1 g1).1
      rw [Array.getD_eq_getD_getElem?,Array.getElem?_append_left (by simpa using hlt)]
      simp only [Nat.sub_zero] at g1
      simp [g1]
    refine runC_ok hC hP c hlex hL _ w bs B B _ w _ _ (List.prefix_refl _) hsl hm (T.ok_bind hq) fun r B' a' w' hq' hp' h' hm'=>?_
    obtain ⟨e,st'⟩:=r
    cases e with
    | exit id=>exact hq'.elim
    | normal =>
      obtain ⟨s,x,hq2,hx,hr⟩:=resT_ok h' hm' (T.ok_bind hq')
      exact ⟨h'.defers,x,hr,s,st'.H,B',x,hq2,hp',hx,rfl,hm'⟩
    | ret =>
      obtain ⟨s,x,hq2,hx,hr⟩:=resT_ok h' hm' (T.ok_bind hq')
      exact ⟨h'.defers,x,hr,s,st'.H,B',x,hq2,hp',hx,rfl,hm'⟩
theorem calls_pure (hC:CfgOk P C) (hP:P.follows .mixedOrders=true) {L:Nat→St→Option (T (Ex×St))} {f:FuncId} {fn:Func} {c:Code} (hf:P.funcs[f]?=some fn) (hb:fn.body=some c) (hlex:lexAll C c=true)
    (hL:∀ id body,(id,body) ∈ loopsOf c→∀ st t,L id st=some t→RunOk P fn.ntmps (.block id (.loop body)) st t)
    {vs:List Value} {v:Value} (hq:(runF P C L fn c (vs.map .v) []).ok fun r=>r.1.to []=some v) (w:World) :
    Calls P f vs.toArray w fun e w'=>e = .returned v∧Below w.heap.size w w':=by
  refine (calls_of_runF (bs:=[]) (B:=[]) (w:=w) hC hP hf hb hlex hL (tos_plain [] vs) ⟨⟨rfl,by simp,by simp [ExBlk],by simp [ExBlk]⟩,.refl _ _,by simp [ExBlk]⟩ hq).mono ?_
  rintro e w' ⟨s,H',B',x,hs,hp,hx,rfl,hm⟩
  have:=SV.to_mono hp hs
  rw [hx] at this
  simp only [Option.some.injEq] at this
  subst this
  exact ⟨rfl,hm.keeps.below⟩
def onlyV:SV×List Blk→T Value
  | (s,_)=>match s.plain with
    | some x=>.leaf x
    | none=>.stuck 53
def runV (P:Program) (C:Cfg) (L:Nat→St→Option (T (Ex×St))) (fn:Func) (vs:List Value):T Value:=(runF P C L fn (fn.body.getD .skip) (vs.map .v) []).bind onlyV
theorem calls_runV (hC:CfgOk P C) (hP:P.follows .mixedOrders=true) {L:Nat→St→Option (T (Ex×St))} {f:FuncId} {fn:Func} (hf:P.funcs[f]?=some fn) (hb:fn.body.isSome=true) (hlex:lexAll C (fn.body.getD .skip)=true)
    (hL:∀ id body,(id,body) ∈ loopsOf (fn.body.getD .skip)→∀ st t,L id st=some t→RunOk P fn.ntmps (.block id (.loop body)) st t)
    {vs:List Value} {t:T Value} (ht:runV P C L fn vs=t) {v:Value} (hq:t.ok fun x=>x=v) (w:World) :
    Calls P f vs.toArray w fun e w'=>e = .returned v∧Below w.heap.size w w':=by
  subst ht
  have hb':fn.body=some (fn.body.getD .skip):=by
    cases h:fn.body with
    | none=>rw [h] at hb;cases hb
    | some c=>rfl
  refine calls_pure hC hP hf hb' hlex hL (T.ok_mono (fun r h=>?_) (T.ok_bind hq)) w
  obtain ⟨s,H⟩:=r
  simp only [onlyV] at h
  split at h
  · rename_i x hx
    have h:x=v:=h
    subst h
    exact SV.plain_to hx []
  · exact (h:False).elim
def noL:Nat→St→Option (T (Ex×St)):=fun _ _=>none
theorem noL_ok {c:Code}:∀ id body,(id,body) ∈ loopsOf c→∀ st t,noL id st=some t→RunOk P N (.block id (.loop body)) st t:=fun _ _ _ _ _ h=>by cases h
def noG:GTab:=fun _ _ _ _=>none
theorem noG_ok:GOk P noG:=fun _ _ _ _ _ h=>by cases h
def onlyS (P:Program) (S:Tab):Cfg:=⟨S,noG,effE P [],[],[]⟩
theorem onlyS_ok {S:Tab} (h:TabOk P S):CfgOk P (onlyS P S):=⟨h,noG_ok⟩
def noS:Tab:=fun _ _=>none
theorem noS_ok:TabOk P noS:=fun _ _ _ h=>by cases h
def cTree:Option (List Prop×Value)→Option (T Value)
  | some (p,v)=>some (needs p (.leaf v))
  | none=>none
def addS (k:FuncId) (h:List Value→Option (List Prop×Value)) (S:Tab):Tab:=fun f xs=>bif Nat.beq f k then cTree (h xs) else S f xs
theorem addS_ok {P:Program} {k:FuncId} {h:List Value→Option (List Prop×Value)} {S:Tab} (hS:TabOk P S) (hg:isGo P k=true) (hh:∀ xs p v,h xs=some (p,v)→(∀ q ∈ p,q)→∀ w,Calls P k xs.toArray w fun e w'=>e = .returned v∧Below w.heap.size w w'):TabOk P (addS k h S):=by
  intro f xs t hf
  unfold addS at hf
  cases hb:Nat.beq f k
  · rw [hb] at hf;exact hS f xs t hf
  · rw [hb,cond_true] at hf
    obtain rfl:f=k:=Nat.eq_of_beq_eq_true hb
    unfold cTree at hf
    split at hf
    · rename_i p v hp
      simp only [Option.some.injEq] at hf
      subst hf
      refine ⟨hg,fun v' hv=>?_⟩
      obtain ⟨h1,h2⟩:=needs_ok hv
      have h2:v=v':=h2
      subst h2
      exact hh xs p v hp h1
    · cases hf
end
end Go.Proofs.YthacfgaacleaeaaGreatDoor.Sym
namespace Go.Proofs.YthacfgaacleaeaaGreatDoor.Sym
open Go.IntKind (i64 u32)
open Go.RowKit
theorem wp_loop_idx {P:Program} {Q:Exit→Act→World→Prop} {c:Code} {ι:Type} (I:ι→Act→World→Prop) (μ:ι→Nat)
    (round:∀ i a w,I i a w→c.wp P (Exit.then (fun a' w'=>∃ j,μ j < μ i∧I j a' w') Q) a w):∀ i a w,I i a w→(Code.loop c).wp P Q a w:=by
  intro i a w h₀ b k cs
  have key:∀ n i a w,μ i=n→I i a w →
      ∃ e a' w',Q e a' w'∧Arrives P (lone (b.at a (.code c :: .inLoop c :: k)) cs w) b k cs e a' w':=by
    intro n
    induction n using Nat.strongRecOn with
    | _ n ih =>
      intro i a w hn hI
      obtain ⟨e,a₁,w₁,hq,harr⟩:=round i a w hI b (.inLoop c :: k) cs
      cases e with
      | normal =>
        obtain ⟨j,hlt,hI₁⟩:=hq
        obtain ⟨e₂,a₂,w₂,hq₂,harr₂⟩:=ih (μ j) (hn ▸ hlt) j a₁ w₁ rfl hI₁
        exact ⟨e₂,a₂,w₂,hq₂,.of_steps (Steps.trans harr (.one step_inLoop)) harr₂⟩
      | exit id=>exact ⟨_,a₁,w₁,hq,.pass (x:=.inLoop c) rfl (fun _ _=>.inl (by simp)) harr⟩
      | goto l=>exact ⟨_,a₁,w₁,hq,.pass (x:=.inLoop c) rfl (fun _ _=>.inl (by simp)) harr⟩
      | ret=>exact ⟨_,a₁,w₁,hq,.pass (x:=.inLoop c) rfl (fun _ _=>.inl (by simp)) harr⟩
      | panic ch=>exact ⟨_,a₁,w₁,hq,.pass (x:=.inLoop c) rfl (fun _ _=>.inl (by simp)) harr⟩
      | outgrown=>exact ⟨_,a₁,w₁,hq,.pass (x:=.inLoop c) rfl (fun _ _=>.inl (by simp)) harr⟩
  obtain ⟨e,a',w',hq,harr⟩:=key _ i a w rfl h₀
  exact ⟨e,a',w',hq,.of_steps (.one step_loop) harr⟩
mutual
def SV.under (n:Nat):SV→Bool
  | .v _ | .c _ | .tt | .ff=>true
  | .ptr k _ | .ref k | .elt k _ _ _=>Nat.blt k n
  | .agg l | .tup l=>SV.unders n l
  | .clo _ a b=>SV.unders n a && SV.unders n b
  | .ifc _ s=>SV.under n s
def SV.unders (n:Nat):List SV→Bool
  | []=>true
  | s :: l=>SV.under n s && SV.unders n l
end
theorem getElem?_of_prefix {B B2:List Value} (h:B <+: B2) {k:Nat} (hk:k < B.length):B[k]?=B2[k]?:=by
  obtain ⟨t,rfl⟩:=h
  rw [List.getElem?_append_left hk]
mutual
theorem SV.under_to {B B2:List Value} (h:B <+: B2):∀ {s:SV},s.under B.length=true→s.to B=s.to B2
  | .v _,_=>rfl
  | .c _,_=>rfl
  | .tt,_=>rfl
  | .ff,_=>rfl
  | .ptr k off,e=>by
    have hk:k < B.length:=by simpa [SV.under,Nat.blt_eq] using e
    simp only [SV.to,getElem?_of_prefix h hk]
  | .ref k,e=>by
    have hk:k < B.length:=by simpa [SV.under,Nat.blt_eq] using e
    simp only [SV.to,getElem?_of_prefix h hk]
  | .elt k _ _ _,e=>by
    have hk:k < B.length:=by simpa [SV.under,Nat.blt_eq] using e
    simp only [SV.to,getElem?_of_prefix h hk]
  | .agg l,e=>by simp only [SV.to,SV.unders_tos h (l:=l) e]
  | .tup l,e=>by simp only [SV.to,SV.unders_tos h (l:=l) e]
  | .clo fn a b,e=>by
    simp only [SV.under,Bool.and_eq_true] at e
    simp only [SV.to,SV.unders_tos h (l:=a) e.1,SV.unders_tos h (l:=b) e.2]
  | .ifc t s,e=>by simp only [SV.to,SV.under_to h (s:=s) e]
theorem SV.unders_tos {B B2:List Value} (h:B <+: B2):∀ {l:List SV},SV.unders B.length l=true→SV.tos B l=SV.tos B2 l
  | [],_=>rfl
  | s :: l,e=>by
    simp only [SV.unders,Bool.and_eq_true] at e
    simp only [SV.tos,SV.under_to h e.1,SV.unders_tos h e.2]
end
def cutS (n:Nat):Option SV→Option SV
  | some s=>bif s.under n then some s else none
  | none=>none
def cutBlk (n:Nat):Blk→Blk
  | .own cells=>bif SV.unders n cells then .own cells else .gone
  | .lst e sz m cells=>bif SV.unders n cells then .lst e sz m cells else .gone
  | .que e sz m xp cells=>bif SV.unders n cells then .que e sz m xp cells else .gone
  | b=>b
theorem look_only {keep:List Nat} {g:Nat→Option SV} {t:Nat} {s:SV} (h:look (keep.map fun t=>(t,g t)) t=some s):g t=some s:=by
  induction keep with
  | nil=>simp [look] at h
  | cons u l ih =>
    simp only [List.map_cons,look] at h
    cases hb:Nat.beq u t
    · rw [hb,cond_false] at h;exact ih h
    · rw [hb,cond_true] at h
      obtain rfl:=Nat.eq_of_beq_eq_true hb
      exact h
theorem only_get {H:List Blk} {n k:Nat} {x:Blk} (h:((H.take n).map (cutBlk n))[k]?=some x):k < n∧∃ y,H[k]?=some y∧x=cutBlk n y:=by
  rw [List.getElem?_map,List.getElem?_take] at h
  split at h
  · rename_i hk
    cases hy:H[k]? with
    | none=>rw [hy] at h;cases h
    | some y =>
      rw [hy] at h
      simp only [Option.map_some,Option.some.injEq] at h
      exact ⟨hk,y,rfl,h.symm⟩
  · cases h
theorem cutBlk_excl {n:Nat} {y:Blk} (h:(cutBlk n y).excl=true):y.excl=true:=by
  cases y <;> first | exact h | rfl
theorem cutBlk_row {n:Nat} {y:Blk} {m sz:Nat} {f:Nat→Nat→Value} (h:cutBlk n y = .row m sz f):y = .row m sz f:=by
  cases y with
  | own cells =>
    simp only [cutBlk] at h
    cases hb:SV.unders n cells <;> rw [hb] at h <;> cases h
  | lst e sz m cells =>
    simp only [cutBlk] at h
    cases hb:SV.unders n cells <;> rw [hb] at h <;> cases h
  | que e sz m xp cells =>
    simp only [cutBlk] at h
    cases hb:SV.unders n cells <;> rw [hb] at h <;> cases h
  | _=>exact h
theorem only_mem {w0:World} {bs:List Nat} {H:List Blk} {B B2:List Value} {w:World} (h:Mem w0 bs H B2 w) (hp:B <+: B2):Mem w0 bs ((H.take B.length).map (cutBlk B.length)) B w:=by
  have hle:B.length≤B2.length:=hp.length_le
  have hb:∀ {k:Nat},k < B.length→B[k]?=B2[k]?:=fun hk=>getElem?_of_prefix hp hk
  have ex:∀ k b,ExBlk ((H.take B.length).map (cutBlk B.length)) B k b→ExBlk H B2 k b:=by
    rintro k b ⟨x,u,h1,h2,h3,h4⟩
    obtain ⟨hk,y,hy,rfl⟩:=only_get h1
    exact ⟨y,u,hy,cutBlk_excl h2,by rw [← hb hk];exact h3,h4⟩
  have rd:∀ k b,RdBlk ((H.take B.length).map (cutBlk B.length)) B k b→RdBlk H B2 k b:=by
    rintro k b ⟨m,sz,f,u,h1,h2,h3,h4,h5⟩
    obtain ⟨hk,y,hy,e⟩:=only_get h1
    exact ⟨m,sz,f,u,by rw [hy,cutBlk_row e.symm],h2,h3,by rw [← hb hk];exact h4,h5⟩
  refine ⟨⟨?_,fun k x u hk hu=>?_,fun k j b h1 h2=>h.sat.sep k j b (ex _ _ h1) (ex _ _ h2),fun k j b h1 h2=>h.sat.far k j b (ex _ _ h1) (rd _ _ h2)⟩,h.keeps,fun k b h1=>h.good k b (ex _ _ h1)⟩
  · simp [← h.sat.len];omega
  · obtain ⟨hkn,y,hy,rfl⟩:=only_get hk
    have hs:=h.sat.blk k y u hy (by rw [← hb hkn];exact hu)
    cases y with
    | own cells =>
      simp only [cutBlk]
      cases hbl:SV.unders B.length cells
      · exact trivial
      · rw [cond_true]
        obtain ⟨b,vs,h1,h2,h3⟩:=hs
        exact ⟨b,vs,h1,by rw [SV.unders_tos hp hbl];exact h2,h3⟩
    | lst e sz m cells =>
      simp only [cutBlk]
      cases hbl:SV.unders B.length cells
      · exact trivial
      · rw [cond_true]
        obtain ⟨xs,h1,h2⟩:=hs
        exact ⟨xs,by rw [SV.unders_tos hp hbl];exact h1,h2⟩
    | que e sz m xp cells =>
      simp only [cutBlk]
      cases hbl:SV.unders B.length cells
      · exact trivial
      · rw [cond_true]
        obtain ⟨xs,h1,h2⟩:=hs
        exact ⟨xs,by rw [SV.unders_tos hp hbl];exact h1,h2⟩
    | _=>exact hs
section
variable {P:Program} {C:Cfg} {N:Nat}
def Behind {ι:Type} (id:Nat) (I:ι→Prop) (inv:ι→St) (μ:ι→Nat) (i:ι) (Qs:Ex×St→Prop) (r:Ex×St):Prop :=
  match r.1 with
  | .normal=>∃ j,I j∧μ j < μ i∧r.2=inv j
  | .exit k=>if k=id then Qs (.normal,r.2) else Qs r
  | .ret=>Qs r
theorem nat_beq_ne {a b:Nat} (h:a ≠ b):Nat.beq a b=false:=by
  cases hb:Nat.beq a b
  · rfl
  · exact absurd (Nat.eq_of_beq_eq_true hb) h
def unrollB (run:St→T (Ex×St)) (id:Nat):Nat→St→T (Ex×St)
  | 0,_=>.stuck 38
  | n+1,st=>(run st).bind fun r=>match r.1 with
    | .normal=>unrollB run id n r.2
    | .exit k=>bif Nat.beq k id then .leaf (.normal,r.2) else .leaf r
    | .ret=>.leaf r
theorem unroll_ok (hC:CfgOk P C) (hP:P.follows .mixedOrders=true) {Lb:Nat→St→Option (T (Ex×St))} {id:Nat} {body:Code} (hlex:lexAll C body=true)
    (hL:∀ id' b,(id',b) ∈ loopsOf body→∀ st t,Lb id' st=some t→RunOk P N (.block id' (.loop b)) st t) (n:Nat) (st:St):RunOk P N (.block id (.loop body)) st (unrollB (runC P C Lb N body) id n st):=by
  intro w0 bs pre B a w Qs Q hp hsl hm hq hQ
  refine wp_block ?_
  refine wp_loop_idx (ι:=Nat) (fun m a w=>∃ st B,(unrollB (runC P C Lb N body) id m st).ok Qs∧pre <+: B∧Slots N st.fr B a∧Mem w0 bs st.H B w) (fun m=>m) (fun m a w hi=>?_) n a w ⟨st,B,hq,hp,hsl,hm⟩
  obtain ⟨st,B,hq,hp,hsl,hm⟩:=hi
  cases m with
  | zero=>exact hq.elim
  | succ m =>
    refine runC_ok hC hP body hlex hL st w0 bs pre B a w _ _ hp hsl hm (T.ok_bind hq) fun r B' a' w' hr hpre hs' hm'=>?_
    obtain ⟨e,st'⟩:=r
    cases e with
    | normal=>exact ⟨m,Nat.lt_succ_self _,st',B',hr,hpre,hs',hm'⟩
    | ret=>exact hQ _ B' a' w' hr hpre hs' hm'
    | exit k =>
      simp only [Ex.to,Exit.then,Exit.inBlock]
      by_cases e:k=id
      · subst e
        simp only [Nat.beq_refl,cond_true] at hr
        rw [if_pos rfl]
        exact hQ _ B' a' w' hr hpre hs' hm'
      · simp only [nat_beq_ne e,cond_false] at hr
        rw [if_neg e]
        exact hQ _ B' a' w' hr hpre hs' hm'
theorem one_loop {c b:Code} {id:Nat} {L:Nat→St→Option (T (Ex×St))} (h:loopsOf c=[(id,b)]) (hb:∀ st t,L id st=some t→RunOk P N (.block id (.loop b)) st t) :
    ∀ id' b',(id',b') ∈ loopsOf c→∀ st t,L id' st=some t→RunOk P N (.block id' (.loop b')) st t:=by
  intro id' b' hm
  rw [h,List.mem_singleton,Prod.mk.injEq] at hm
  obtain ⟨rfl,rfl⟩:=hm
  exact hb
theorem two_loops {c b1 b2:Code} {id1 id2:Nat} {L:Nat→St→Option (T (Ex×St))} (h:loopsOf c=[(id1,b1),(id2,b2)]) (hb1:∀ st t,L id1 st=some t→RunOk P N (.block id1 (.loop b1)) st t) (hb2:∀ st t,L id2 st=some t→RunOk P N (.block id2 (.loop b2)) st t) :
    ∀ id' b',(id',b') ∈ loopsOf c→∀ st t,L id' st=some t→RunOk P N (.block id' (.loop b')) st t:=by
  intro id' b' hm
  rw [h] at hm
  simp only [List.mem_cons,Prod.mk.injEq,List.not_mem_nil,or_false] at hm
  rcases hm with ⟨rfl,rfl⟩ | ⟨rfl,rfl⟩
  · exact hb1
  · exact hb2
def loopAt (fn:Func) (k:Nat):Code:=((loopsOf (fn.body.getD .skip)).getD k (0,.skip)).2
def addL (id:Nat) (f:St→T (Ex×St)) (L:Nat→St→Option (T (Ex×St))):Nat→St→Option (T (Ex×St)):=fun i st=>bif Nat.beq i id then some (f st) else L i st
theorem addL_same {id:Nat} {f:St→T (Ex×St)} {L:Nat→St→Option (T (Ex×St))} {st:St} {t:T (Ex×St)} (h:addL id f L id st=some t):t=f st:=by
  unfold addL at h
  rw [Nat.beq_refl,cond_true,Option.some.injEq] at h
  exact h.symm
theorem addL_other {id i:Nat} {f:St→T (Ex×St)} {L:Nat→St→Option (T (Ex×St))} {st:St} {t:T (Ex×St)} (hne:i ≠ id) (h:addL id f L i st=some t):L i st=some t:=by
  unfold addL at h
  rw [nat_beq_ne hne,cond_false] at h
  exact h
end
end Go.Proofs.YthacfgaacleaeaaGreatDoor.Sym
namespace Go.Proofs.YthacfgaacleaeaaGreatDoor.Sym
open Go.IntKind (i64 u32)
open Go.RowKit
def isSome' (j:Nat):Option Nat→Bool
  | some i=>Nat.beq i j
  | none=>false
def distinct:List (Option Nat)→Bool
  | []=>true
  | none :: l=>distinct l
  | some j :: l=>!(l.any (isSome' j)) && distinct l
theorem distinct_inj:∀ {js:List (Option Nat)},distinct js=true→∀ {a b j:Nat},js[a]?=some (some j)→js[b]?=some (some j)→a=b
  | [],_,a,b,j,ha,_=>by simp at ha
  | none :: l,h,a,b,j,ha,hb=>by
    cases a with
    | zero=>simp at ha
    | succ a=>cases b with
      | zero=>simp at hb
      | succ b=>have:=distinct_inj (js:=l) h (a:=a) (b:=b) (j:=j) (by simpa using ha) (by simpa using hb);omega
  | some i :: l,h,a,b,j,ha,hb=>by
    simp only [distinct,Bool.and_eq_true,Bool.not_eq_true'] at h
    have no:∀ c:Nat,l[c]?=some (some i)→False:=by
      intro c hc
      have:=List.any_eq_false.1 h.1 _ (List.mem_of_getElem? hc)
      simp [isSome'] at this
    cases a with
    | zero =>
      simp at ha;subst ha
      cases b with
      | zero=>rfl
      | succ b=>exact (no b (by simpa using hb)).elim
    | succ a=>cases b with
      | zero=>simp at hb;subst hb;exact (no a (by simpa using ha)).elim
      | succ b=>have:=distinct_inj (js:=l) h.2 (a:=a) (b:=b) (j:=j) (by simpa using ha) (by simpa using hb);omega
def srcOf:Option SV→Option Nat
  | some (.ref j)=>some j
  | some (.ptr j off)=>bif Nat.beq off 0 then some j else none
  | _=>none
def isNilS:Option SV→Bool
  | some (.c (.slice none 0 0))=>true
  | some (.v (.slice none 0 0))=>true
  | _=>false
def movedSV (n:Nat):Option SV→Option SV
  | some (.ref _)=>some (.ref n)
  | some (.ptr _ off)=>bif Nat.beq off 0 then some (.ptr n 0) else none
  | s=>bif isNilS s then some (.ref n) else none
def openVec:Blk→Blk
  | .vec _ e sz n xs=>.vec true e sz n xs
  | b=>b
def movedBlk (n0:Nat) (H:List Blk) (e:TypeId) (sz:Nat) (s:Option SV):Blk :=
  match srcOf s with
  | some j=>(match H[j]? with | some b=>cutBlk n0 (openVec b) | none=>.gone)
  | none=>bif isNilS s then .vec true e sz 0 [] else .gone
def keptBlks (n0:Nat) (js:List (Option Nat)):Nat→List Blk→List Blk
  | _,[]=>[]
  | k,b :: l=>(bif js.any (isSome' k) then .gone else cutBlk n0 b) :: keptBlks n0 js (k+1) l
theorem keptBlks_get {n0:Nat} {js:List (Option Nat)}:∀ {l:List Blk} {i k:Nat} {x:Blk},(keptBlks n0 js i l)[k]?=some x→∃ b,l[k]?=some b∧x=bif js.any (isSome' (i+k)) then .gone else cutBlk n0 b
  | [],_,_,_,h=>by simp [keptBlks] at h
  | b :: l,i,0,x,h=>by simp only [keptBlks,List.getElem?_cons_zero,Option.some.injEq] at h;exact ⟨b,rfl,h.symm⟩
  | b :: l,i,k+1,x,h=>by
    simp only [keptBlks,List.getElem?_cons_succ] at h
    obtain ⟨b',h1,h2⟩:=keptBlks_get h
    exact ⟨b',by simpa using h1,by rw [h2,show i+1+k=i+(k+1) by omega]⟩
theorem keptBlks_length {n0:Nat} {js:List (Option Nat)}:∀ (l:List Blk) (i:Nat),(keptBlks n0 js i l).length=l.length
  | [],_=>rfl
  | _ :: l,i=>by simp [keptBlks,keptBlks_length l (i+1)]
abbrev Mv:=List (Nat×TypeId×Nat)
def srcs (mv:Mv) (fr:List (Nat×Option SV)):List (Option Nat):=mv.map fun m=>srcOf (look fr m.1)
def mvFr (n:Nat) (fr:List (Nat×Option SV)):Mv→List (Nat×Option SV)
  | []=>[]
  | m :: l=>(m.1,movedSV n (look fr m.1)) :: mvFr (n+1) fr l
def openS:SV→SV
  | .c x=>.v x
  | .tt=>.v (.bool true)
  | .ff=>.v (.bool false)
  | s=>s
def openO:Option SV→Option SV
  | some s=>some (openS s)
  | none=>none
theorem openS_to {B:List Value} (s:SV):(openS s).to B=s.to B:=by cases s <;> rfl
theorem opens_tos {B:List Value}:∀ (l:List SV),SV.tos B (l.map openS)=SV.tos B l
  | []=>rfl
  | s :: l=>by simp only [List.map_cons,SV.tos,openS_to,opens_tos l]
def openBlk:Blk→Blk
  | .own cells=>.own (cells.map openS)
  | b=>b
theorem openBlk_excl (x:Blk):(openBlk x).excl=x.excl:=by cases x <;> rfl
theorem openBlk_row {x:Blk} {n sz:Nat} {f:Nat→Nat→Value} (h:openBlk x = .row n sz f):x = .row n sz f:=by cases x <;> first | exact h | cases h
theorem openBlk_sat {B:List Value} {w:World} {u:Value} {x:Blk} (h:BlkSat B w u x):BlkSat B w u (openBlk x):=by
  cases x with
  | own cells =>
    obtain ⟨b,vs,h1,h2,h3⟩:=h
    exact ⟨b,vs,h1,by rw [opens_tos];exact h2,h3⟩
  | _=>exact h
theorem openBlk_mem {w0:World} {bs:List Nat} {H:List Blk} {B:List Value} {w:World} (h:Mem w0 bs H B w):Mem w0 bs (H.map openBlk) B w:=by
  have get:∀ {k:Nat} {x:Blk},(H.map openBlk)[k]?=some x→∃ y,H[k]?=some y∧x=openBlk y:=by
    intro k x hk
    rw [List.getElem?_map,Option.map_eq_some_iff] at hk
    obtain ⟨y,hy,rfl⟩:=hk
    exact ⟨y,hy,rfl⟩
  have ex:∀ k b,ExBlk (H.map openBlk) B k b→ExBlk H B k b:=by
    rintro k b ⟨x,u,h1,h2,h3,h4⟩
    obtain ⟨y,hy,rfl⟩:=get h1
    exact ⟨y,u,hy,by rw [← openBlk_excl];exact h2,h3,h4⟩
  have rd:∀ k b,RdBlk (H.map openBlk) B k b→RdBlk H B k b:=by
    rintro k b ⟨n,sz,f,u,h1,h2,h3,h4,h5⟩
    obtain ⟨y,hy,e⟩:=get h1
    exact ⟨n,sz,f,u,by rw [hy,openBlk_row e.symm],h2,h3,h4,h5⟩
  refine ⟨⟨by simp [h.sat.len],fun k x u hk hu=>?_,fun k j b h1 h2=>h.sat.sep k j b (ex _ _ h1) (ex _ _ h2),fun k j b h1 h2=>h.sat.far k j b (ex _ _ h1) (rd _ _ h2)⟩,h.keeps,fun k b h1=>h.good k b (ex _ _ h1)⟩
  obtain ⟨y,hy,rfl⟩:=get hk
  exact openBlk_sat (h.sat.blk k y u hy hu)
def St.tidy (n0:Nat) (keep:List Nat) (mv:Mv) (ks:List Nat) (st:St):St :=
  ⟨mvFr n0 st.fr mv++keep.map (fun t=>(t,openO (cutS n0 (look st.fr t)))),
   (ks.foldl softAt (keptBlks n0 (srcs mv st.fr) 0 (st.H.take n0)++(bif distinct (srcs mv st.fr) then mv.map fun m=>movedBlk n0 st.H m.2.1 m.2.2 (look st.fr m.1) else mv.map fun _=>.gone))).map openBlk⟩
theorem look_append {a b:List (Nat×Option SV)} {t:Nat} {s:SV} (h:look (a++b) t=some s):look a t=some s ∨ look b t=some s:=by
  induction a with
  | nil=>exact .inr h
  | cons p l ih =>
    obtain ⟨u,o⟩:=p
    simp only [List.cons_append,look] at h ⊢
    cases hb:Nat.beq u t
    · rw [hb,cond_false] at h;exact ih h
    · rw [hb,cond_true] at h;exact .inl h
theorem look_mvFr {fr:List (Nat×Option SV)} {t:Nat} {s:SV}:∀ {mv:Mv} {n:Nat},look (mvFr n fr mv) t=some s→∃ i m,mv[i]?=some m∧m.1=t∧movedSV (n+i) (look fr t)=some s
  | [],_,h=>by simp [mvFr,look] at h
  | m :: l,n,h=>by
    simp only [mvFr,look] at h
    cases hb:Nat.beq m.1 t
    · rw [hb,cond_false] at h
      obtain ⟨i,m',h1,h2,h3⟩:=look_mvFr h
      exact ⟨i+1,m',by simpa using h1,h2,by rw [show n+(i+1)=n+1+i by omega];exact h3⟩
    · rw [hb,cond_true] at h
      have e:=Nat.eq_of_beq_eq_true hb
      exact ⟨0,m,rfl,e,by rw [← e];exact h⟩
def mvVals (a:Act) (mv:Mv):List Value:=mv.map fun m=>a.tmps.getD m.1 undef
theorem tidy_slots {N n0:Nat} {st:St} {B:List Value} {a:Act} (h:Slots N st.fr B a) (hn:n0≤B.length) (keep:List Nat) (mv:Mv) (ks:List Nat):Slots N (st.tidy n0 keep mv ks).fr (B.take n0++mvVals a mv) a:=by
  refine ⟨h.size,h.defers,fun t s e=>?_⟩
  have hlt:(B.take n0).length=n0:=by simp;omega
  rcases look_append e with e | e
  · obtain ⟨i,m,h1,h2,h3⟩:=look_mvFr e
    have hu:(B.take n0++mvVals a mv)[n0+i]?=some (a.tmps.getD t undef):=by
      rw [List.getElem?_append_right (by omega),hlt,Nat.add_sub_cancel_left]
      simp [mvVals,h1,h2]
    unfold movedSV at h3
    split at h3
    · simp only [Option.some.injEq] at h3;subst h3;exact hu
    · rename_i j off hl
      cases hb:Nat.beq off 0
      · rw [hb] at h3;cases h3
      · rw [hb,cond_true,Option.some.injEq] at h3
        subst h3
        have e0:=Nat.eq_of_beq_eq_true hb
        subst e0
        have h4:=h.slot t _ hl
        simp only [SV.to] at h4
        split at h4
        · simp only [Option.some.injEq] at h4
          simp only [SV.to,hu,← h4]
        · cases h4
    · cases hb:isNilS (look st.fr t)
      · rw [hb] at h3;cases h3
      · rw [hb,cond_true,Option.some.injEq] at h3
        subst h3;exact hu
  · have e:=look_only e
    have e:∃ s0,cutS n0 (look st.fr t)=some s0∧s=openS s0:=by
      cases hc:cutS n0 (look st.fr t) with
      | none=>rw [hc] at e;cases e
      | some s0=>rw [hc] at e;simp only [openO,Option.some.injEq] at e;exact ⟨s0,rfl,e.symm⟩
    obtain ⟨s0,e9,rfl⟩:=e
    rw [openS_to]
    unfold cutS at e9
    split at e9
    · rename_i s' hs
      cases hb:s'.under n0
      · rw [hb] at e9;cases e9
      · rw [hb,cond_true,Option.some.injEq] at e9
        subst e9
        have h1:=h.slot t s' hs
        have h2:s'.to (B.take n0)=s'.to B:=SV.under_to (List.take_prefix _ _) (by rw [hlt];exact hb)
        rw [← h2] at h1
        exact SV.to_mono (List.prefix_append _ _) h1
    · cases e9
theorem openVec_excl (x:Blk):(openVec x).excl=x.excl:=by cases x <;> rfl
theorem openVec_sat {B:List Value} {w:World} {u:Value} {x:Blk} (h:BlkSat B w u x):BlkSat B w u (openVec x):=by cases x <;> exact h
theorem openVec_row {x:Blk} {m sz:Nat} {f:Nat→Nat→Value} (h:openVec x = .row m sz f):x = .row m sz f:=by
  cases x <;> first | exact h | cases h
theorem remap_mem {w0:World} {bs:List Nat} {H H':List Blk} {B B':List Value} {w:World} (h:Mem w0 bs H B w) (n0:Nat) (hn:n0≤B.length) (hlen:B'.length=H'.length) (hpre:B.take n0 <+: B') (σ:Nat→Option Nat)
    (hs:∀ k x u,H'[k]?=some x→B'[k]?=some u→x = .gone ∨ (blockOf u=none∧BlkSat B' w u x) ∨ ∃ j y y',σ k=some j∧H[j]?=some y∧B[j]?=some u∧x=cutBlk n0 y'∧(y'=y ∨ y'=openVec y))
    (hinj:∀ k k' j,σ k=some j→σ k'=some j→k=k'):Mem w0 bs H' B' w:=by
  have hlt:(B.take n0).length=n0:=by simp;omega
  have ex:∀ k b,ExBlk H' B' k b→∃ j,σ k=some j∧ExBlk H B j b:=by
    rintro k b ⟨x,u,h1,h2,h3,h4⟩
    rcases hs k x u h1 h3 with rfl | ⟨g,_⟩ | ⟨j,y,y',g1,g2,g3,rfl,hy⟩
    · cases h2
    · rw [g] at h4;cases h4
    · refine ⟨j,g1,y,u,g2,?_,g3,h4⟩
      rcases hy with rfl | rfl
      · exact cutBlk_excl h2
      · rw [← openVec_excl];exact cutBlk_excl h2
  have rd:∀ k b,RdBlk H' B' k b→∃ j,σ k=some j∧RdBlk H B j b:=by
    rintro k b ⟨m,sz,f,u,h1,h2,h3,h4,h5⟩
    rcases hs k _ u h1 h4 with e | ⟨g,_⟩ | ⟨j,y,y',g1,g2,g3,e,hy⟩
    · cases e
    · rw [g] at h5;cases h5
    · refine ⟨j,g1,m,sz,f,u,?_,h2,h3,g3,h5⟩
      rcases hy with rfl | rfl
      · rw [g2,cutBlk_row e.symm]
      · rw [g2,openVec_row (cutBlk_row e.symm)]
  refine ⟨⟨hlen,fun k x u hk hu=>?_,fun k j b h1 h2=>?_,fun k j b h1 h2=>?_⟩,h.keeps,fun k b h1=>?_⟩
  · rcases hs k x u hk hu with rfl | ⟨_,g⟩ | ⟨j,y,y',g1,g2,g3,rfl,hy⟩
    · exact trivial
    · exact g
    · have hb:BlkSat B w u y':=by
        have hb:=h.sat.blk j y u g2 g3
        rcases hy with rfl | rfl
        · exact hb
        · exact openVec_sat hb
      cases y' with
      | own cells =>
        simp only [cutBlk]
        cases hbl:SV.unders n0 cells
        · exact trivial
        · rw [cond_true]
          obtain ⟨b,vs,e1,e2,e3⟩:=hb
          refine ⟨b,vs,e1,?_,e3⟩
          have:=SV.unders_tos (List.take_prefix n0 B) (l:=cells) (by rw [hlt];exact hbl)
          rw [← this] at e2
          exact SV.tos_mono hpre e2
      | lst e sz m cells =>
        simp only [cutBlk]
        cases hbl:SV.unders n0 cells
        · exact trivial
        · rw [cond_true]
          obtain ⟨xs,e1,e2⟩:=hb
          refine ⟨xs,?_,e2⟩
          have:=SV.unders_tos (List.take_prefix n0 B) (l:=cells) (by rw [hlt];exact hbl)
          rw [← this] at e1
          exact SV.tos_mono hpre e1
      | que e sz m xp cells =>
        simp only [cutBlk]
        cases hbl:SV.unders n0 cells
        · exact trivial
        · rw [cond_true]
          obtain ⟨xs,e1,e2⟩:=hb
          refine ⟨xs,?_,e2⟩
          have:=SV.unders_tos (List.take_prefix n0 B) (l:=cells) (by rw [hlt];exact hbl)
          rw [← this] at e1
          exact SV.tos_mono hpre e1
      | _=>exact hb
  · obtain ⟨a,a1,a2⟩:=ex _ _ h1
    obtain ⟨c,c1,c2⟩:=ex _ _ h2
    have:=h.sat.sep _ _ _ a2 c2
    subst this
    exact hinj _ _ _ a1 c1
  · obtain ⟨a,a1,a2⟩:=ex _ _ h1
    obtain ⟨c,c1,c2⟩:=rd _ _ h2
    exact h.sat.far _ _ _ a2 c2
  · obtain ⟨a,a1,a2⟩:=ex _ _ h1
    exact h.good _ _ a2
theorem src_val {N:Nat} {fr:List (Nat×Option SV)} {B:List Value} {a:Act} (h:Slots N fr B a) {t j:Nat} (e:srcOf (look fr t)=some j):B[j]?=some (a.tmps.getD t undef):=by
  unfold srcOf at e
  split at e
  · rename_i k hl
    simp only [Option.some.injEq] at e;subst e
    exact h.slot t _ hl
  · rename_i k off hl
    cases hb:Nat.beq off 0
    · rw [hb] at e;cases e
    · rw [hb,cond_true,Option.some.injEq] at e
      subst e
      have e0:=Nat.eq_of_beq_eq_true hb
      subst e0
      have h4:=h.slot t _ hl
      simp only [SV.to] at h4
      split at h4
      · rename_i b hb'
        simp only [Option.some.injEq] at h4
        rw [hb',h4]
      · cases h4
  · cases e
theorem nil_val {N:Nat} {fr:List (Nat×Option SV)} {B:List Value} {a:Act} (h:Slots N fr B a) {t:Nat} (e:isNilS (look fr t)=true):a.tmps.getD t undef = .slice none 0 0:=by
  unfold isNilS at e
  split at e
  · rename_i hl
    have:=h.slot t _ hl
    simp only [SV.to,Option.some.injEq] at this
    exact this.symm
  · rename_i hl
    have:=h.slot t _ hl
    simp only [SV.to,Option.some.injEq] at this
    exact this.symm
  · cases e
theorem tidy_mem {N:Nat} {w0:World} {bs:List Nat} {st:St} {B:List Value} {a:Act} {w:World} (hsl:Slots N st.fr B a) (h:Mem w0 bs st.H B w) {n0:Nat} (hn:n0≤B.length) (keep:List Nat) (mv:Mv) (ks:List Nat) :
    Mem w0 bs (st.tidy n0 keep mv ks).H (B.take n0++mvVals a mv) w:=by
  refine openBlk_mem (softs_mem ks ?_)
  have hlt:(B.take n0).length=n0:=by simp;omega
  have hkl:(keptBlks n0 (srcs mv st.fr) 0 (st.H.take n0)).length=n0:=by rw [keptBlks_length,List.length_take,← h.sat.len];omega
  let σ:Nat→Option Nat:=fun k=>if k < n0 then (if (srcs mv st.fr).any (isSome' k) then none else some k) else (if distinct (srcs mv st.fr) then ((srcs mv st.fr)[k - n0]?).join else none)
  have σ_lo:∀ {k j},k < n0→σ k=some j→j=k∧(srcs mv st.fr).any (isSome' k)=false:=by
    intro k j hk e
    simp only [σ,if_pos hk] at e
    split at e
    · cases e
    · rename_i hc
      simp only [Option.some.injEq] at e
      exact ⟨e.symm,by simpa using hc⟩
  have σ_hi:∀ {k j},¬ k < n0→σ k=some j→distinct (srcs mv st.fr)=true∧(srcs mv st.fr)[k - n0]?=some (some j):=by
    intro k j hk e
    simp only [σ,if_neg hk] at e
    split at e
    · rename_i hd
      refine ⟨hd,?_⟩
      cases hg:(srcs mv st.fr)[k - n0]? with
      | none=>rw [hg] at e;cases e
      | some o=>rw [hg] at e;rw [show o=some j from e]
    · cases e
  refine remap_mem h n0 hn ?_ (List.prefix_append _ _) σ ?_ ?_
  · rw [List.length_append,List.length_append,hlt,hkl]
    cases distinct (srcs mv st.fr) <;> simp [mvVals]
  · intro k x u hk hu
    by_cases hkn:k < n0
    · rw [List.getElem?_append_left (by rw [hkl];exact hkn)] at hk
      rw [List.getElem?_append_left (by rw [hlt];exact hkn)] at hu
      obtain ⟨b,h1,h2⟩:=keptBlks_get hk
      rw [Nat.zero_add] at h2
      cases hc:(srcs mv st.fr).any (isSome' k)
      · rw [hc,cond_false] at h2
        refine .inr (.inr ⟨k,b,b,?_,?_,?_,h2,.inl rfl⟩)
        · simp only [σ,if_pos hkn,hc];rfl
        · rw [List.getElem?_take,if_pos hkn] at h1;exact h1
        · rw [List.getElem?_take,if_pos hkn] at hu;exact hu
      · rw [hc,cond_true] at h2;exact .inl h2
    · rw [List.getElem?_append_right (by rw [hkl];omega),hkl] at hk
      rw [List.getElem?_append_right (by rw [hlt];omega),hlt] at hu
      cases hd:distinct (srcs mv st.fr)
      · rw [hd,cond_false,List.getElem?_map,Option.map_eq_some_iff] at hk
        obtain ⟨_,_,rfl⟩:=hk
        exact .inl rfl
      · rw [hd,cond_true,List.getElem?_map,Option.map_eq_some_iff] at hk
        obtain ⟨m,hm,rfl⟩:=hk
        have hu:u=a.tmps.getD m.1 undef:=by
          simp only [mvVals,List.getElem?_map,hm,Option.map_some,Option.some.injEq] at hu
          exact hu.symm
        unfold movedBlk
        split
        · rename_i j hj
          have hbv:=src_val hsl hj
          split
          · rename_i b hb
            refine .inr (.inr ⟨j,b,openVec b,?_,hb,by rw [hu];exact hbv,rfl,.inr rfl⟩)
            simp only [σ,if_neg hkn,hd,if_true]
            simp [srcs,hm,hj]
          · exact .inl rfl
        · cases hnil:isNilS (look st.fr m.1)
          · exact .inl rfl
          · rw [cond_true]
            have:=nil_val hsl hnil
            rw [this] at hu
            subst hu
            exact .inr (.inl ⟨rfl,by simp [BlkSat,VecSat,World.ownsRow]⟩)
  · intro k k' j e1 e2
    by_cases hk:k < n0
    · obtain ⟨rfl,hno⟩:=σ_lo hk e1
      by_cases hk':k' < n0
      · exact (σ_lo hk' e2).1
      · obtain ⟨_,g⟩:=σ_hi hk' e2
        have:=List.any_eq_false.1 hno _ (List.mem_of_getElem? g)
        simp [isSome'] at this
    · obtain ⟨hd,g⟩:=σ_hi hk e1
      by_cases hk':k' < n0
      · obtain ⟨rfl,hno⟩:=σ_lo hk' e2
        have:=List.any_eq_false.1 hno _ (List.mem_of_getElem? g)
        simp [isSome'] at this
      · obtain ⟨_,g'⟩:=σ_hi hk' e2
        have:=distinct_inj hd g g'
        omega
section
variable {P:Program} {C:Cfg} {N:Nat}
def roundM (P:Program) (C:Cfg) (Lb:Nat→St→Option (T (Ex×St))) (N:Nat) (id:Nat) (body:Code) (n0:Nat) (keep:List Nat) (mv:Mv) (ks:List Nat) (st:St):T (Ex×St) :=
  (runC P C Lb N body st).bind fun r=>match r.1 with
    | .normal=>.leaf (.normal,r.2.tidy n0 keep mv ks)
    | .exit k=>bif Nat.beq k id then .leaf (.exit id,r.2.tidy n0 keep mv ks) else .leaf r
    | .ret=>.leaf r
def Alt (st st':St):Prop:=st'.H=st.H∧∀ N B a,Slots N st.fr B a→Slots N st'.fr B a
theorem Alt.refl (st:St):Alt st st:=⟨rfl,fun _ _ _ h=>h⟩
def closeS:SV→SV
  | .v (.bool true)=>.tt
  | .v (.bool false)=>.ff
  | .v x=>.c x
  | s=>s
theorem closeS_to {B:List Value} (s:SV):(closeS s).to B=s.to B:=by unfold closeS;split <;> rfl
def closeAt (cs:List Nat) (st:St):St:=⟨st.fr.map fun p=>(p.1,bif cs.any (Nat.beq p.1) then (match p.2 with | some s=>some (closeS s) | none=>none) else p.2),st.H⟩
theorem closeAt_look {cs:List Nat}:∀ {l:List (Nat×Option SV)} {t:Nat} {s:SV},look (l.map fun p=>(p.1,bif cs.any (Nat.beq p.1) then (match p.2 with | some s=>some (closeS s) | none=>none) else p.2)) t=some s→∃ s0,look l t=some s0∧(s=s0 ∨ s=closeS s0)
  | [],_,_,h=>by simp [look] at h
  | (u, o) :: l,t,s,h=>by
    simp only [List.map_cons,look] at h ⊢
    cases hb:Nat.beq u t
    · rw [hb,cond_false] at h
      obtain ⟨s0,h1,h2⟩:=closeAt_look h
      exact ⟨s0,by rw [cond_false];exact h1,h2⟩
    · rw [hb,cond_true] at h
      rw [cond_true]
      cases hc:cs.any (Nat.beq u)
      · rw [hc,cond_false] at h;exact ⟨s,h,.inl rfl⟩
      · rw [hc,cond_true] at h
        cases o with
        | none=>cases h
        | some s0=>simp only [Option.some.injEq] at h;exact ⟨s0,rfl,.inr h.symm⟩
theorem closeAt_alt (cs:List Nat) (st:St):Alt st (closeAt cs st):=by
  refine ⟨rfl,fun N B a h=>⟨h.size,h.defers,fun t s e=>?_⟩⟩
  obtain ⟨s0,h1,h2⟩:=closeAt_look e
  have:=h.slot t s0 h1
  rcases h2 with rfl | rfl
  · exact this
  · rw [closeS_to];exact this
theorem loop_mv (hC:CfgOk P C) (hP:P.follows .mixedOrders=true) {Lb:Nat→St→Option (T (Ex×St))} {id:Nat} {body:Code} (hlex:lexAll C body=true)
    (hL:∀ id' b,(id',b) ∈ loopsOf body→∀ st t,Lb id' st=some t→RunOk P N (.block id' (.loop b)) st t) {ι:Type} (I:ι→Prop) (inv:ι→St) (μ:ι→Nat) (n0:Nat) (keep:List Nat) (mv:Mv) (ks:List Nat) {t:T (Ex×St)}
    (hround:∀ Qs,t.ok Qs→∀ i,I i→∃ st',Alt (inv i) st'∧(roundM P C Lb N id body n0 keep mv ks st').ok (Behind id I inv μ i Qs)) {st:St} {i0:ι} (h0:I i0) :
    RunOk P N (.block id (.loop body)) st (.need (st.H.length=n0) (.need (st.tidy n0 keep mv ks=inv i0) t)):=by
  intro w0 bs pre B a w Qs Q hp hsl hm hq hQ
  obtain ⟨hn0,hst,hq⟩:=hq
  have hlen:B.length=n0:=hm.sat.len.trans hn0
  have hB0:B.take n0=B:=List.take_of_length_le (by omega)
  have hsl0:=tidy_slots hsl (n0:=n0) (by omega) keep mv ks
  have hm0:=tidy_mem hsl hm (n0:=n0) (by omega) keep mv ks
  rw [hst,hB0] at hsl0 hm0
  refine wp_block ?_
  refine wp_loop_idx (ι:=ι) (fun i a w=>I i∧∃ us,Slots N (inv i).fr (B++us) a∧Mem w0 bs (inv i).H (B++us) w) μ (fun i a w hi=>?_) i0 a w ⟨h0,_,hsl0,hm0⟩
  obtain ⟨hI,us,hs,hmi⟩:=hi
  obtain ⟨sa,hal,hro⟩:=hround Qs hq i hI
  refine runC_ok hC hP body hlex hL sa w0 bs (B++us) (B++us) a w _ _ (List.prefix_refl _) (hal.2 _ _ _ hs) (by rw [hal.1];exact hmi) (T.ok_bind hro) fun r B' a' w' hr hpre hs' hm'=>?_
  obtain ⟨e,st'⟩:=r
  have hpB:B <+: B':=(List.prefix_append _ _).trans hpre
  have hBt:B'.take n0=B:=by
    obtain ⟨l,rfl⟩:=hpB
    rw [← hlen,List.take_left]
  have hnB:n0≤B'.length:=by have:=hpB.length_le;omega
  have hon:=tidy_slots hs' hnB keep mv ks
  have hom:=tidy_mem hs' hm' hnB keep mv ks
  rw [hBt] at hon hom
  cases e with
  | normal =>
    obtain ⟨j,hj,hlt,e⟩:=hr
    exact ⟨j,hlt,hj,_,by rw [← e];exact hon,by rw [← e];exact hom⟩
  | ret=>exact hQ _ B' a' w' hr (hp.trans hpB) hs' hm'
  | exit k =>
    simp only [Ex.to,Exit.then,Exit.inBlock]
    by_cases e:k=id
    · subst e
      simp only [Nat.beq_refl,cond_true] at hr
      have hr:(if k=k then Qs (.normal,st'.tidy n0 keep mv ks) else Qs (.exit k,st'.tidy n0 keep mv ks)):=hr
      rw [if_pos rfl] at hr ⊢
      exact hQ _ _ a' w' hr (hp.trans (List.prefix_append _ _)) hon hom
    · simp only [nat_beq_ne e,cond_false] at hr
      have hr:(if k=id then Qs (.normal,st') else Qs (.exit k,st')):=hr
      rw [if_neg e] at hr ⊢
      exact hQ _ B' a' w' hr (hp.trans hpB) hs' hm'
def lastX (id:Nat) (r:Ex×St):T (Ex×St):=match r.1 with
  | .normal=>.stuck 39
  | .exit k=>bif Nat.beq k id then .leaf (.normal,r.2) else .leaf r
  | .ret=>.leaf r
theorem loop_cnt (hC:CfgOk P C) (hP:P.follows .mixedOrders=true) {Lb:Nat→St→Option (T (Ex×St))} {id:Nat} {body:Code} (hlex:lexAll C body=true)
    (hL:∀ id' b,(id',b) ∈ loopsOf body→∀ st t,Lb id' st=some t→RunOk P N (.block id' (.loop b)) st t) {ι:Type} (I:ι→Prop) (inv:ι→St) (μ:ι→Nat) (n0:Nat) (keep:List Nat) (mv:Mv) (ks:List Nat) (n:ι) (cs:List Nat)
    (hround:∀ i,I i→i ≠ n→(roundM P C Lb N id body n0 keep mv ks (inv i)).ok fun r=>r.1 = .normal∧∃ j,I j∧μ j < μ i∧r.2=inv j) {st:St} {i0:ι} (h0:I i0) :
    RunOk P N (.block id (.loop body)) st (.need (st.H.length=n0) (.need (st.tidy n0 keep mv ks=inv i0) ((roundM P C Lb N id body n0 keep mv ks (closeAt cs (inv n))).bind (lastX id)))):=by
  refine loop_mv hC hP hlex hL I inv μ n0 keep mv ks (fun Qs hq i hi=>?_) h0
  by_cases e:i=n
  · subst e
    refine ⟨_,closeAt_alt cs _,T.ok_mono (fun r hr=>?_) (T.ok_bind hq)⟩
    obtain ⟨x,st'⟩:=r
    cases x with
    | normal=>exact (hr:False).elim
    | ret=>exact hr
    | exit k =>
      unfold Behind
      simp only [lastX] at hr ⊢
      by_cases ek:k=id
      · subst ek
        rw [Nat.beq_refl,cond_true] at hr
        rw [if_pos rfl];exact hr
      · rw [nat_beq_ne ek,cond_false] at hr
        rw [if_neg ek];exact hr
  · refine ⟨_,.refl _,T.ok_mono (fun r hr=>?_) (hround i hi e)⟩
    obtain ⟨x,st'⟩:=r
    obtain ⟨h1,j,h2,h3,h4⟩:=hr
    simp only at h1
    subst h1
    exact ⟨j,h2,h3,h4⟩
theorem loop_fin (hC:CfgOk P C) (hP:P.follows .mixedOrders=true) {Lb:Nat→St→Option (T (Ex×St))} {id:Nat} {body:Code} (hlex:lexAll C body=true)
    (hL:∀ id' b,(id',b) ∈ loopsOf body→∀ st t,Lb id' st=some t→RunOk P N (.block id' (.loop b)) st t) {ι:Type} (I:ι→Prop) (inv:ι→St) (μ:ι→Nat) (n0:Nat) (keep:List Nat) (mv:Mv) (ks:List Nat) (n:ι) (fin:St)
    (hround:∀ i,I i→i ≠ n→(roundM P C Lb N id body n0 keep mv ks (inv i)).ok fun r=>r.1 = .normal∧∃ j,I j∧μ j < μ i∧r.2=inv j)
    (hend:(roundM P C Lb N id body n0 keep mv ks (inv n)).ok fun r=>r=(.exit id,fin)) {st:St} {i0:ι} (h0:I i0) :
    RunOk P N (.block id (.loop body)) st (.need (st.H.length=n0) (.need (st.tidy n0 keep mv ks=inv i0) (.leaf (.normal,fin)))):=by
  refine loop_mv hC hP hlex hL I inv μ n0 keep mv ks (fun Qs hq i hi=>?_) h0
  by_cases e:i=n
  · subst e
    refine ⟨_,.refl _,T.ok_mono (fun r hr=>?_) hend⟩
    subst hr
    show if id=id then _ else _
    rw [if_pos rfl];exact hq
  · refine ⟨_,.refl _,T.ok_mono (fun r hr=>?_) (hround i hi e)⟩
    obtain ⟨x,st'⟩:=r
    obtain ⟨h1,j,h2,h3,h4⟩:=hr
    simp only at h1
    subst h1
    exact ⟨j,h2,h3,h4⟩
def loopIn (c:Code) (k:Nat):Code:=((loopsOf c).getD k (0,.skip)).2
def valAt (st:St) (t:Nat):Value:=match look st.fr t with
  | some s=>(match s.plain with | some x=>x | none=>undef)
  | none=>undef
def withStr {α:Type} (st:St) (t:Nat) (k:ByteArray→T α):T α:=match valAt st t with
  | .string s=>k s
  | _=>.stuck 96
def withInt {α:Type} (st:St) (t:Nat) (k:Int→T α):T α:=match valAt st t with
  | .int _ z=>k z
  | _=>.stuck 97
def withRow {α:Type} (st:St) (j:Nat) (k:Nat→(Nat→Nat→Value)→T α):T α:=match st.H[j]? with
  | some (.row n _ f)=>k n f
  | _=>.stuck 99
theorem RunOk.stuck {c:Code} {st:St} {n:Nat}:RunOk P N c st (.stuck n):=fun _ _ _ _ _ _ _ _ _ _ _ h _=>h.elim
theorem RunOk.need {c:Code} {st:St} {p:Prop} {t:T (Ex×St)} (h:p→RunOk P N c st t):RunOk P N c st (.need p t):=fun w0 bs pre B a w Qs Q h1 h2 h3 hq hQ=>h hq.1 w0 bs pre B a w Qs Q h1 h2 h3 hq.2 hQ
theorem RunOk.str {c:Code} {st:St} {t:Nat} {k:ByteArray→T (Ex×St)} (h:∀ s,RunOk P N c st (k s)):RunOk P N c st (withStr st t k):=by
  unfold withStr;split
  · exact h _
  · exact .stuck
theorem RunOk.int {c:Code} {st:St} {t:Nat} {k:Int→T (Ex×St)} (h:∀ s,RunOk P N c st (k s)):RunOk P N c st (withInt st t k):=by
  unfold withInt;split
  · exact h _
  · exact .stuck
end
end Go.Proofs.YthacfgaacleaeaaGreatDoor.Sym
namespace Go.Proofs.YthacfgaacleaeaaGreatDoor.Sym
open Go.IntKind (i64 u32)
open Go.RowKit
abbrev LTab:=FuncId→List SV→List Blk→Option (T (SV×List Blk))
def LOk (P:Program) (F:LTab):Prop:=∀ f ss H t,F f ss H=some t→isGo P f=true∧∀ (bs:List Nat) (B:List Value) (w:World) (vs:List Value),Mem w bs H B w→SV.tos B ss=some vs →
  ∀ Qs:SV×List Blk→Prop,t.ok Qs→Calls P f vs.toArray w fun e w'=>∃ s H' B' x,Qs (s,H')∧B <+: B'∧e = .returned x∧s.to B'=some x∧Mem w bs H' B' w'
mutual
def SV.loc (ks:List Nat):SV→Option SV
  | .v x=>some (.v x)
  | .c x=>some (.c x)
  | .tt=>some .tt
  | .ff=>some .ff
  | .ptr k off=>(posOf k ks 0).map fun i=>.ptr i off
  | .ref k=>(posOf k ks 0).map .ref
  | .elt k sz j off=>(posOf k ks 0).map fun i=>.elt i sz j off
  | .agg l=>(SV.locs ks l).map .agg
  | .tup l=>(SV.locs ks l).map .tup
  | .clo fn a b=>match SV.locs ks a,SV.locs ks b with | some x,some y=>some (.clo fn x y) | _,_=>none
  | .ifc t s=>(SV.loc ks s).map (.ifc t)
def SV.locs (ks:List Nat):List SV→Option (List SV)
  | []=>some []
  | s :: l=>match SV.loc ks s,SV.locs ks l with | some x,some xs=>some (x :: xs) | _,_=>none
end
mutual
def SV.ren (ρ:Nat→Nat):SV→SV
  | .v x=>.v x
  | .c x=>.c x
  | .tt=>.tt
  | .ff=>.ff
  | .ptr k off=>.ptr (ρ k) off
  | .ref k=>.ref (ρ k)
  | .elt k sz i off=>.elt (ρ k) sz i off
  | .agg l=>.agg (SV.rens ρ l)
  | .tup l=>.tup (SV.rens ρ l)
  | .clo fn a b=>.clo fn (SV.rens ρ a) (SV.rens ρ b)
  | .ifc t s=>.ifc t (SV.ren ρ s)
def SV.rens (ρ:Nat→Nat):List SV→List SV
  | []=>[]
  | s :: l=>SV.ren ρ s :: SV.rens ρ l
end
def Blk.loc (ks:List Nat):Blk→Option Blk
  | .own cells=>(SV.locs ks cells).map .own
  | .lst e sz n cells=>(SV.locs ks cells).map (.lst e sz n)
  | .que e sz n xp cells=>(SV.locs ks cells).map (.que e sz n xp)
  | b=>some b
def Blk.ren (ρ:Nat→Nat):Blk→Blk
  | .own cells=>.own (SV.rens ρ cells)
  | .lst e sz n cells=>.lst e sz n (SV.rens ρ cells)
  | .que e sz n xp cells=>.que e sz n xp (SV.rens ρ cells)
  | b=>b
section
variable {B Bl:List Value} {ks:List Nat}
mutual
theorem SV.loc_to (h:∀ (i k:Nat),ks[i]?=some k→Bl[i]?=B[k]?):∀ {s s':SV},s.loc ks=some s'→s'.to Bl=s.to B
  | .v x,_,e=>by simp only [SV.loc,Option.some.injEq] at e;subst e;rfl
  | .c x,_,e=>by simp only [SV.loc,Option.some.injEq] at e;subst e;rfl
  | .tt,_,e=>by simp only [SV.loc,Option.some.injEq] at e;subst e;rfl
  | .ff,_,e=>by simp only [SV.loc,Option.some.injEq] at e;subst e;rfl
  | .ptr k off,_,e=>by
    simp only [SV.loc,Option.map_eq_some_iff] at e
    obtain ⟨i,hi,rfl⟩:=e
    simp only [SV.to,h i k (by simpa using (posOf_get hi).2)]
  | .ref k,_,e=>by
    simp only [SV.loc,Option.map_eq_some_iff] at e
    obtain ⟨i,hi,rfl⟩:=e
    simp only [SV.to,h i k (by simpa using (posOf_get hi).2)]
  | .elt k sz j off,_,e=>by
    simp only [SV.loc,Option.map_eq_some_iff] at e
    obtain ⟨i,hi,rfl⟩:=e
    simp only [SV.to,h i k (by simpa using (posOf_get hi).2)]
  | .agg l,_,e=>by
    simp only [SV.loc,Option.map_eq_some_iff] at e
    obtain ⟨l',hl,rfl⟩:=e
    simp only [SV.to,SV.locs_tos h hl]
  | .tup l,_,e=>by
    simp only [SV.loc,Option.map_eq_some_iff] at e
    obtain ⟨l',hl,rfl⟩:=e
    simp only [SV.to,SV.locs_tos h hl]
  | .clo fn a b,_,e=>by
    simp only [SV.loc] at e
    split at e
    · rename_i x y hx hy
      simp only [Option.some.injEq] at e;subst e
      simp only [SV.to,SV.locs_tos h hx,SV.locs_tos h hy]
    · cases e
  | .ifc t s,_,e=>by
    simp only [SV.loc,Option.map_eq_some_iff] at e
    obtain ⟨s',hs,rfl⟩:=e
    simp only [SV.to,SV.loc_to h hs]
theorem SV.locs_tos (h:∀ (i k:Nat),ks[i]?=some k→Bl[i]?=B[k]?):∀ {l l':List SV},SV.locs ks l=some l'→SV.tos Bl l'=SV.tos B l
  | [],_,e=>by simp only [SV.locs,Option.some.injEq] at e;subst e;rfl
  | s :: l,_,e=>by
    simp only [SV.locs] at e
    split at e
    · rename_i x xs hx hxs
      simp only [Option.some.injEq] at e;subst e
      simp only [SV.tos,SV.loc_to h hx,SV.locs_tos h hxs]
    · cases e
end
mutual
theorem SV.ren_to {ρ:Nat→Nat} (h:∀ (i:Nat) (u:Value),Bl[i]?=some u→B[ρ i]?=some u):∀ {s:SV} {x:Value},s.to Bl=some x→(s.ren ρ).to B=some x
  | .v x,_,e=>e
  | .c x,_,e=>e
  | .tt,_,e=>e
  | .ff,_,e=>e
  | .ptr k off,x,e=>by
    simp only [SV.ren,SV.to] at e ⊢
    split at e
    · rename_i hb;rw [h _ _ hb];exact e
    · cases e
  | .ref k,x,e=>by simp only [SV.ren,SV.to] at e ⊢;exact h _ _ e
  | .elt k sz i off,x,e=>by
    simp only [SV.ren,SV.to] at e ⊢
    split at e
    · rename_i hb;rw [h _ _ hb];exact e
    · cases e
  | .agg l,x,e=>by
    simp only [SV.ren,SV.to,Option.map_eq_some_iff] at e ⊢
    obtain ⟨vs,h1,h2⟩:=e
    exact ⟨vs,SV.rens_tos h h1,h2⟩
  | .tup l,x,e=>by
    simp only [SV.ren,SV.to,Option.map_eq_some_iff] at e ⊢
    obtain ⟨vs,h1,h2⟩:=e
    exact ⟨vs,SV.rens_tos h h1,h2⟩
  | .clo fn a b,x,e=>by
    simp only [SV.ren,SV.to] at e ⊢
    split at e
    · rename_i xs ys h1 h2
      rw [SV.rens_tos h h1,SV.rens_tos h h2];exact e
    · cases e
  | .ifc t s,x,e=>by
    simp only [SV.ren,SV.to,Option.map_eq_some_iff] at e ⊢
    obtain ⟨v,h1,h2⟩:=e
    exact ⟨v,SV.ren_to h h1,h2⟩
theorem SV.rens_tos {ρ:Nat→Nat} (h:∀ (i:Nat) (u:Value),Bl[i]?=some u→B[ρ i]?=some u):∀ {l:List SV} {xs:List Value},SV.tos Bl l=some xs→SV.tos B (SV.rens ρ l)=some xs
  | [],_,e=>e
  | s :: l,xs,e=>by
    simp only [SV.rens,SV.tos] at e ⊢
    split at e
    · rename_i x ys h1 h2
      rw [SV.ren_to h h1,SV.rens_tos h h2];exact e
    · cases e
end
end
theorem Blk.ren_sat {B Bl:List Value} {ρ:Nat→Nat} (h:∀ (i:Nat) (u:Value),Bl[i]?=some u→B[ρ i]?=some u) {w:World} {u:Value} {x:Blk} (hs:BlkSat Bl w u x):BlkSat B w u (x.ren ρ):=by
  cases x with
  | own cells =>
    obtain ⟨b,vs,h1,h2,h3⟩:=hs
    exact ⟨b,vs,h1,SV.rens_tos h h2,h3⟩
  | lst e sz n cells =>
    obtain ⟨xs,h1,h2⟩:=hs
    exact ⟨xs,SV.rens_tos h h1,h2⟩
  | que e sz n xp cells =>
    obtain ⟨xs,h1,h2⟩:=hs
    exact ⟨xs,SV.rens_tos h h1,h2⟩
  | _=>exact hs
theorem Blk.loc_sat {B Bl:List Value} {ks:List Nat} (h:∀ (i k:Nat),ks[i]?=some k→Bl[i]?=B[k]?) {w:World} {u:Value} {x y:Blk} (hl:x.loc ks=some y) (hs:BlkSat B w u x):BlkSat Bl w u y:=by
  cases x with
  | own cells =>
    simp only [Blk.loc,Option.map_eq_some_iff] at hl
    obtain ⟨c,hc,rfl⟩:=hl
    obtain ⟨b,vs,h1,h2,h3⟩:=hs
    exact ⟨b,vs,h1,by rw [SV.locs_tos h hc];exact h2,h3⟩
  | lst e sz n cells =>
    simp only [Blk.loc,Option.map_eq_some_iff] at hl
    obtain ⟨c,hc,rfl⟩:=hl
    obtain ⟨xs,h1,h2⟩:=hs
    exact ⟨xs,by rw [SV.locs_tos h hc];exact h1,h2⟩
  | que e sz n xp cells =>
    simp only [Blk.loc,Option.map_eq_some_iff] at hl
    obtain ⟨c,hc,rfl⟩:=hl
    obtain ⟨xs,h1,h2⟩:=hs
    exact ⟨xs,by rw [SV.locs_tos h hc];exact h1,h2⟩
  | _=>simp only [Blk.loc,Option.some.injEq] at hl;subst hl;exact hs
theorem Blk.loc_excl {ks:List Nat} {x y:Blk} (hl:x.loc ks=some y):y.excl=x.excl:=by
  cases x with
  | own cells =>
    simp only [Blk.loc,Option.map_eq_some_iff] at hl
    obtain ⟨c,hc,rfl⟩:=hl;rfl
  | lst e sz n cells =>
    simp only [Blk.loc,Option.map_eq_some_iff] at hl
    obtain ⟨c,hc,rfl⟩:=hl;rfl
  | que e sz n xp cells =>
    simp only [Blk.loc,Option.map_eq_some_iff] at hl
    obtain ⟨c,hc,rfl⟩:=hl;rfl
  | _=>simp only [Blk.loc,Option.some.injEq] at hl;subst hl;rfl
theorem Blk.loc_row {ks:List Nat} {x:Blk} {n sz:Nat} {f:Nat→Nat→Value} (hl:x.loc ks=some (.row n sz f)):x = .row n sz f:=by
  cases x with
  | own cells =>
    simp only [Blk.loc,Option.map_eq_some_iff] at hl
    obtain ⟨c,hc,e⟩:=hl;cases e
  | lst e sz n cells =>
    simp only [Blk.loc,Option.map_eq_some_iff] at hl
    obtain ⟨c,hc,e⟩:=hl;cases e
  | que e sz n xp cells =>
    simp only [Blk.loc,Option.map_eq_some_iff] at hl
    obtain ⟨c,hc,e⟩:=hl;cases e
  | _=>simp only [Blk.loc,Option.some.injEq] at hl;exact hl
theorem Blk.ren_excl {ρ:Nat→Nat} (x:Blk):(x.ren ρ).excl=x.excl:=by cases x <;> rfl
theorem Blk.ren_row {ρ:Nat→Nat} {x:Blk} {n sz:Nat} {f:Nat→Nat→Value} (h:x.ren ρ = .row n sz f):x = .row n sz f:=by
  cases x <;> first | exact h | cases h
def blks (g:Nat→Option Blk) (ks:List Nat):List Nat→Option (List Blk)
  | []=>some []
  | k :: l=>match g k,blks g ks l with
    | some b,some bs=>(match b.loc ks with | some b'=>some (b' :: bs) | none=>none)
    | _,_=>none
def nodupN:List Nat→Bool
  | []=>true
  | k :: l=>!l.any (Nat.beq k) && nodupN l
def outer (ks:List Nat) (n i:Nat):Nat:=match ks[i]? with
  | some k=>k
  | none=>n+(i - ks.length)
def hideRow:Blk→Blk
  | .row ..=>.gone
  | b=>b
def rowBlk:Blk→Blk
  | .vec _ _ sz n xs=>.row n sz (fun i j=>cellAt xs (i * sz+j))
  | b=>b
def outMuts (ρ:Nat→Nat):List Nat→List Blk→List Blk→List (Nat×Blk)
  | k :: ks,x :: xs,y :: ys=>bif x.excl then (k,(hideRow y).ren ρ) :: outMuts ρ ks xs ys else outMuts ρ ks xs ys
  | _,_,_=>[]
def goOut (ks:List Nat) (n:Nat) (H:List Blk) (r:SV×List Blk):T (SV×Eff) :=
  .leaf (r.1.ren (outer ks n),⟨outMuts (outer ks n) ks H r.2,(r.2.drop ks.length).map fun b=>(hideRow b).ren (outer ks n)⟩)
def liftG (F:LTab):GTab:=fun f ss g n =>
  let ks:=reach g 100 (SV.letss ss) []
  match blks g ks ks,SV.locs ks ss with
  | some H,some ss'=>bif nodupN ks && ks.all (fun k=>Nat.blt k n) then (match F f ss' H with
    | some t=>some (t.bind (goOut ks n H))
    | none=>(F f ss' (H.map rowBlk)).map fun t=>t.bind (goOut ks n (H.map rowBlk))) else none
  | _,_=>none
theorem hideRow_excl {y:Blk} (h:(hideRow y).excl=true):hideRow y=y:=by cases y <;> first | rfl | cases h
theorem hideRow_sat {B:List Value} {w:World} {u:Value} {y:Blk} (h:BlkSat B w u y):BlkSat B w u (hideRow y):=by cases y <;> first | exact h | trivial
theorem hideRow_row {y:Blk} {n sz:Nat} {f:Nat→Nat→Value} (h:hideRow y = .row n sz f):False:=by cases y <;> cases h
theorem rowBlk_excl {y:Blk} (h:(rowBlk y).excl=true):rowBlk y=y:=by cases y <;> first | rfl | cases h
theorem rowBlk_sat {B:List Value} {w:World} {u:Value} {y:Blk} (h:BlkSat B w u y):BlkSat B w u (rowBlk y):=by
  cases y with
  | vec o e sz n xs =>
    have hv:VecSat w e sz u n xs:=h
    have hl:=hv.view.1
    rcases hv.view.2 with ⟨rfl,rfl⟩ | ⟨g,cap,rfl,hg,h1,h2,h3⟩
    · exact ⟨none,0,rfl,Nat.le_refl _,Nat.zero_le _,fun i j hi=>by omega⟩
    · refine ⟨_,cap,rfl,h1,h2,fun i j hi hj=>⟨_,rfl,?_⟩⟩
      have hlt:i * sz+j < n * sz:=by
        calc i * sz+j < i * sz+sz:=by omega
          _=(i+1) * sz:=by rw [Nat.add_mul,Nat.one_mul]
          _≤n * sz:=Nat.mul_le_mul_right _ hi
      rw [add_off,Nat.zero_add,(h3 _ hlt).1]
      simp [cellAt,List.getD_eq_getElem?_getD,List.getElem?_eq_getElem (show i * sz+j < xs.length by omega)]
  | _=>exact h
theorem rowBlk_row {y:Blk} {n sz:Nat} {f:Nat→Nat→Value} (h:rowBlk y = .row n sz f):y = .row n sz f ∨ y.excl=true:=by
  cases y with
  | vec o e sz n xs=>exact .inr rfl
  | _=>exact .inl h
theorem nodupN_inj:∀ {ks:List Nat},nodupN ks=true→∀ {i j k:Nat},ks[i]?=some k→ks[j]?=some k→i=j
  | [],_,i,_,_,h,_=>by simp at h
  | a :: l,hn,i,j,k,hi,hj=>by
    simp only [nodupN,Bool.and_eq_true,Bool.not_eq_true'] at hn
    have hno:∀ m,l[m]?=some a→False:=fun m hm=>by
      have:=List.any_eq_false.1 hn.1 a (List.mem_of_getElem? hm)
      exact this (Nat.beq_refl a)
    cases i with
    | zero =>
      simp only [List.getElem?_cons_zero,Option.some.injEq] at hi
      subst hi
      cases j with
      | zero=>rfl
      | succ j=>exact (hno j (by simpa using hj)).elim
    | succ i =>
      cases j with
      | zero =>
        simp only [List.getElem?_cons_zero,Option.some.injEq] at hj
        subst hj
        exact (hno i (by simpa using hi)).elim
      | succ j =>
        have:=nodupN_inj hn.2 (i:=i) (j:=j) (by simpa using hi) (by simpa using hj)
        rw [this]
theorem blks_get {g:Nat→Option Blk} {ks:List Nat}:∀ {l:List Nat} {H:List Blk},blks g ks l=some H→H.length=l.length∧∀ (i k:Nat),l[i]?=some k→∃ b b',g k=some b∧b.loc ks=some b'∧H[i]?=some b'
  | [],H,h=>by simp only [blks,Option.some.injEq] at h;subst h;exact ⟨rfl,by simp⟩
  | a :: l,H,h=>by
    simp only [blks] at h
    split at h
    · rename_i b bs hb hbs
      split at h
      · rename_i b' hb'
        simp only [Option.some.injEq] at h
        subst h
        obtain ⟨h1,h2⟩:=blks_get hbs
        refine ⟨by simp [h1],fun i k hi=>?_⟩
        cases i with
        | zero=>simp only [List.getElem?_cons_zero,Option.some.injEq] at hi;subst hi;exact ⟨b,b',hb,hb',rfl⟩
        | succ i=>simpa using h2 i k (by simpa using hi)
      · cases h
    · cases h
theorem outMuts_get {ρ:Nat→Nat}:∀ {ks:List Nat} {xs ys:List Blk},nodupN ks=true→ks.length=xs.length→xs.length≤ys.length→∀ (H:List Blk),(∀ k ∈ ks,k < H.length)→∀ (k:Nat),
    (∃ (i:Nat) (x y:Blk),ks[i]?=some k∧xs[i]?=some x∧ys[i]?=some y∧x.excl=true∧((outMuts ρ ks xs ys).foldl (fun H p=>H.set p.1 p.2) H)[k]?=some ((hideRow y).ren ρ)) ∨
    ((∀ (i:Nat) (x:Blk),ks[i]?=some k→xs[i]?=some x→x.excl=false)∧((outMuts ρ ks xs ys).foldl (fun H p=>H.set p.1 p.2) H)[k]?=H[k]?)
  | [],xs,ys,_,_,_,H,_,k=>.inr ⟨by simp,by simp [outMuts]⟩
  | a :: ks,[],_,_,h,_,_,_,_=>by simp at h
  | a :: ks,x :: xs,[],_,_,h,_,_,_=>by simp at h
  | a :: ks, x :: xs,y :: ys,hn,h1,h2,H,hlt,k=>by
    have hn':=hn
    simp only [nodupN,Bool.and_eq_true,Bool.not_eq_true'] at hn
    have ih:=fun H' (hl:∀ k ∈ ks,k < H'.length)=>outMuts_get (ρ:=ρ) hn.2 (by simpa using h1) (by simpa using h2) H' hl k
    have hnot:∀ i:Nat,ks[i]?=some a→False:=fun m hm=>by
      have:=List.any_eq_false.1 hn.1 a (List.mem_of_getElem? hm)
      exact this (Nat.beq_refl a)
    cases he:x.excl
    · simp only [outMuts,he,cond_false]
      rcases ih H (fun k hk=>hlt k (List.mem_cons_of_mem _ hk)) with ⟨i,x',y',g1,g2,g3,g4,g5⟩ | ⟨g1,g2⟩
      · exact .inl ⟨i+1,x',y',by simpa using g1,by simpa using g2,by simpa using g3,g4,g5⟩
      · refine .inr ⟨fun i x' hi hx=>?_,g2⟩
        cases i with
        | zero=>simp only [List.getElem?_cons_zero,Option.some.injEq] at hx;subst hx;exact he
        | succ i=>exact g1 i x' (by simpa using hi) (by simpa using hx)
    · simp only [outMuts,he,cond_true,List.foldl_cons]
      rcases ih (H.set a ((hideRow y).ren ρ)) (fun k hk=>by simpa using hlt k (List.mem_cons_of_mem _ hk)) with ⟨i,x',y',g1,g2,g3,g4,g5⟩ | ⟨g1,g2⟩
      · exact .inl ⟨i+1,x',y',by simpa using g1,by simpa using g2,by simpa using g3,g4,g5⟩
      · by_cases hka:k=a
        · subst hka
          refine .inl ⟨0,x,y,rfl,rfl,rfl,he,?_⟩
          rw [g2,List.getElem?_set_self (hlt k (List.mem_cons_self ..))]
        · refine .inr ⟨fun i x' hi hx=>?_,?_⟩
          · cases i with
            | zero=>simp only [List.getElem?_cons_zero,Option.some.injEq] at hi;exact absurd hi.symm hka
            | succ i=>exact g1 i x' (by simpa using hi) (by simpa using hx)
          · rw [g2,List.getElem?_set_ne (fun h=>hka h.symm)]
theorem lift_core {P:Program} {f:FuncId} {ss ss':List SV} {n:Nat} {ks:List Nat} {Hl:List Blk} {t0:T (SV×List Blk)} (hlocs:SV.locs ks ss=some ss') (hnd:nodupN ks=true) (hall:(ks.all fun k=>Nat.blt k n)=true) (hHl:Hl.length=ks.length)
    (hcalls:∀ (bs:List Nat) (B:List Value) (w:World) (vs:List Value),Mem w bs Hl B w→SV.tos B ss'=some vs→∀ Qs:SV×List Blk→Prop,t0.ok Qs→Calls P f vs.toArray w fun e w'=>∃ s H' B' x,Qs (s,H')∧B <+: B'∧e = .returned x∧s.to B'=some x∧Mem w bs H' B' w')
    {w0:World} {bs:List Nat} {H:List Blk} {B:List Value} {w:World} {vs:List Value} (hm:Mem w0 bs H B w) (hn:n=H.length) (hvs:SV.tos B ss=some vs)
    (up:∀ (i:Nat) (x:Blk),Hl[i]?=some x→∃ k y y',ks[i]?=some k∧H[k]?=some y∧y.loc ks=some y'∧(x=y' ∨ x=rowBlk y'))
    {Qs:SV×Eff→Prop} (hq:(t0.bind (goOut ks n Hl)).ok Qs):Calls P f vs.toArray w fun e w'=>∃ s ef B' x,Qs (s,ef)∧B <+: B'∧e = .returned x∧s.to B'=some x∧Mem w0 bs (ef.run H) B' w':=by
  have hkn:∀ (i k:Nat),ks[i]?=some k→k < H.length:=fun i k hi=>by
    have:=List.all_eq_true.1 hall k (List.mem_of_getElem? hi)
    rw [hn] at this
    simpa [Nat.blt_eq] using this
  -- the small memory
  let Bl:=ks.map fun k=>(B[k]?).getD undef
  have hBl:∀ (i k:Nat),ks[i]?=some k→Bl[i]?=B[k]?:=fun i k hi=>by
    have hk:k < B.length:=by rw [hm.sat.len];exact hkn i k hi
    simp only [Bl,List.getElem?_map,hi,Option.map_some,List.getElem?_eq_getElem hk,Option.getD_some]
  have hBll:Bl.length=ks.length:=by simp [Bl]
  have exUp:∀ i b,ExBlk Hl Bl i b→∃ k,ks[i]?=some k∧ExBlk H B k b:=by
    rintro i b ⟨x,u,h1,h2,h3,h4⟩
    obtain ⟨k,y,y',hk,hy,hloc,hx⟩:=up i x h1
    have e:x=y':=by
      rcases hx with rfl | rfl
      · rfl
      · exact rowBlk_excl h2
    subst e
    exact ⟨k,hk,y,u,hy,by rw [← Blk.loc_excl hloc];exact h2,by rw [← hBl i k hk];exact h3,h4⟩
  have rdUp:∀ i b,RdBlk Hl Bl i b→∃ k,ks[i]?=some k∧(RdBlk H B k b ∨ ExBlk H B k b):=by
    rintro i b ⟨m,sz,ff,u,h1,h2,h3,h4,h5⟩
    obtain ⟨k,y,y',hk,hy,hloc,hx⟩:=up i _ h1
    have hu:B[k]?=some u:=by rw [← hBl i k hk];exact h4
    have e:y' = .row m sz ff ∨ y'.excl=true:=by
      rcases hx with h | h
      · exact .inl h.symm
      · exact rowBlk_row h.symm
    rcases e with rfl | e
    · exact ⟨k,hk,.inl ⟨m,sz,ff,u,by rw [hy,Blk.loc_row hloc],h2,h3,hu,h5⟩⟩
    · exact ⟨k,hk,.inr ⟨y,u,hy,by rw [← Blk.loc_excl hloc];exact e,hu,h5⟩⟩
  obtain ⟨bl,hbl⟩:∃ bl:List Nat,∀ b,b ∈ bl ↔ ∃ i,ExBlk Hl Bl i b:=by
    classical
    refine ⟨(List.range w.heap.size).filter fun b=>decide (∃ i,ExBlk Hl Bl i b),fun b=>?_⟩
    simp only [List.mem_filter,List.mem_range,decide_eq_true_eq]
    exact ⟨fun h=>h.2,fun h=>⟨by obtain ⟨i,hi⟩:=h;obtain ⟨k,_,hk⟩:=exUp i b hi;exact hm.sat.ex_lt hk,h⟩⟩
  have hml:Mem w bl Hl Bl w:=by
    refine ⟨⟨by rw [hBll,hHl],fun i x u hi hu=>?_,fun i j b h1 h2=>?_,fun i j b h1 h2=>?_⟩,.refl _ _,fun i b hi=>.inl ((hbl b).2 ⟨i,hi⟩)⟩
    · obtain ⟨k,y,y',hk,hy,hloc,hx⟩:=up i x hi
      have:=Blk.loc_sat hBl hloc (hm.sat.blk k y u hy (by rw [← hBl i k hk];exact hu))
      rcases hx with rfl | rfl
      · exact this
      · exact rowBlk_sat this
    · obtain ⟨k,hk,e1⟩:=exUp i b h1
      obtain ⟨k',hk',e2⟩:=exUp j b h2
      have:=hm.sat.sep _ _ _ e1 e2
      subst this
      exact nodupN_inj hnd hk hk'
    · obtain ⟨k,hk,e1⟩:=exUp i b h1
      obtain ⟨k',hk',e2 | e2⟩:=rdUp j b h2
      · exact hm.sat.far _ _ _ e1 e2
      · have:=hm.sat.sep _ _ _ e1 e2
        subst this
        have:=nodupN_inj hnd hk hk'
        subst this
        obtain ⟨x,u,g1,g2,-⟩:=h1
        obtain ⟨m,sz,ff,u',g3,-⟩:=h2
        rw [g1,Option.some.injEq] at g3
        subst g3
        cases g2
  have hvl:SV.tos Bl ss'=some vs:=by rw [SV.locs_tos hBl hlocs];exact hvs
  refine (hcalls bl Bl w vs hml hvl _ (T.ok_bind hq)).mono ?_
  rintro e w' ⟨s,H',Bl',x,hQ,hpre,rfl,hx,hm'⟩
  unfold goOut at hQ
  simp only at hQ
  -- names
  let B':=B++Bl'.drop ks.length
  have hlen':Bl'.length=H'.length:=hm'.sat.len
  have f1:Hl.length≤H'.length:=by rw [← hlen',hHl,← hBll];exact hpre.length_le
  have hlo:∀ i,i < ks.length→Bl'[i]?=Bl[i]?:=fun i hi=>(getElem?_of_prefix hpre (by rw [hBll];exact hi)).symm
  have hρ:∀ (i:Nat) (u:Value),Bl'[i]?=some u→B'[outer ks n i]?=some u:=by
    intro i u hu
    unfold outer
    split
    · rename_i k hk
      have hil:=(List.getElem?_eq_some_iff.1 hk).1
      rw [hlo i hil,hBl i k hk] at hu
      have hkl:=(List.getElem?_eq_some_iff.1 hu).1
      rw [List.getElem?_append_left hkl];exact hu
    · rename_i hk
      have hil:ks.length≤i:=by simpa using hk
      rw [hn,← hm.sat.len,List.getElem?_append_right (by omega),List.getElem?_drop]
      rw [show ks.length+(B.length+(i - ks.length) - B.length)=i by omega];exact hu
  -- what the letters are behind
  have hnews:((H'.drop ks.length).map (fun b=>(hideRow b).ren (outer ks n))).length=H'.length - ks.length:=by simp
  let Hf:=(outMuts (outer ks n) ks Hl H').foldl (fun H p=>H.set p.1 p.2) H
  have hHf:Hf.length=H.length:=foldl_set_length _ _
  have hrun:∀ k:Nat,(Eff.run ⟨outMuts (outer ks n) ks Hl H',(H'.drop ks.length).map fun b=>(hideRow b).ren (outer ks n)⟩ H)[k]?=(Hf++(H'.drop ks.length).map (fun b=>(hideRow b).ren (outer ks n)))[k]?:=by
    intro k
    unfold Eff.run
    split
    · rename_i h0
      simp only at h0
      rw [h0,List.append_nil]
    · rfl
  have cls:∀ (k:Nat) (x:Blk),(Eff.run ⟨outMuts (outer ks n) ks Hl H',(H'.drop ks.length).map fun b=>(hideRow b).ren (outer ks n)⟩ H)[k]?=some x →
      (∃ (i:Nat) (y:Blk),k=outer ks n i∧H'[i]?=some y∧x=(hideRow y).ren (outer ks n)∧B'[k]?=Bl'[i]?) ∨
      (k < H.length∧H[k]?=some x∧B'[k]?=B[k]?∧∀ (i:Nat) (b:Nat),ks[i]?=some k→¬ ExBlk Hl Bl i b):=by
    intro k x hx
    rw [hrun] at hx
    rcases Nat.lt_or_ge k H.length with hk | hk
    · rw [List.getElem?_append_left (by rw [hHf];exact hk)] at hx
      have hBk:B'[k]?=B[k]?:=by rw [List.getElem?_append_left (by rw [hm.sat.len];exact hk)]
      rcases outMuts_get (ρ:=outer ks n) hnd hHl.symm f1 H (fun k hk=>by obtain ⟨i,hi⟩:=List.getElem?_of_mem hk;exact hkn i k hi) k with ⟨i,x',y,g1,g2,g3,g4,g5⟩ | ⟨g1,g2⟩
      · rw [show Hf[k]?=_ from g5,Option.some.injEq] at hx
        have hil:=(List.getElem?_eq_some_iff.1 g1).1
        refine .inl ⟨i,y,?_,g3,hx.symm,?_⟩
        · unfold outer;rw [g1]
        · rw [hBk,hlo i hil,hBl i k g1]
      · rw [show Hf[k]?=_ from g2] at hx
        refine .inr ⟨hk,hx,hBk,fun i b hi hex=>?_⟩
        obtain ⟨x',u,e1,e2,-⟩:=hex
        rw [g1 i x' hi e1] at e2;cases e2
    · rw [List.getElem?_append_right (by rw [hHf];exact hk),hHf,List.getElem?_map,Option.map_eq_some_iff] at hx
      obtain ⟨y,hy,rfl⟩:=hx
      rw [List.getElem?_drop] at hy
      have hil:ks.length+(k - H.length) < H'.length:=(List.getElem?_eq_some_iff.1 hy).1
      refine .inl ⟨ks.length+(k - H.length),y,?_,hy,rfl,?_⟩
      · unfold outer
        rw [List.getElem?_eq_none (by omega)]
        simp only;omega
      · rw [List.getElem?_append_right (by rw [hm.sat.len];exact hk),List.getElem?_drop,hm.sat.len]
  have outInj:∀ {i j:Nat},i < H'.length→j < H'.length→outer ks n i=outer ks n j→i=j:=by
    intro i j hi hj e
    unfold outer at e
    cases ha:ks[i]? with
    | some a =>
      rw [ha] at e
      cases hb:ks[j]? with
      | some b=>rw [hb] at e;simp only at e;subst e;exact nodupN_inj hnd ha hb
      | none=>rw [hb] at e;simp only at e;have:=hkn _ _ ha;omega
    | none =>
      rw [ha] at e
      cases hb:ks[j]? with
      | some b=>rw [hb] at e;simp only at e;have:=hkn _ _ hb;omega
      | none =>
        rw [hb] at e
        simp only [List.getElem?_eq_none_iff] at ha hb
        simp only at e
        omega
  have exOut:∀ k b,ExBlk (Eff.run ⟨outMuts (outer ks n) ks Hl H',(H'.drop ks.length).map fun b=>(hideRow b).ren (outer ks n)⟩ H) B' k b →
      (∃ i,k=outer ks n i∧i < H'.length∧ExBlk H' Bl' i b) ∨ (ExBlk H B k b∧b ∉ bl):=by
    rintro k b ⟨x,u,h1,h2,h3,h4⟩
    rcases cls k x h1 with ⟨i,y,g1,g2,rfl,g5⟩ | ⟨g1,g2,g3,g4⟩
    · rw [Blk.ren_excl] at h2
      exact .inl ⟨i,g1,(List.getElem?_eq_some_iff.1 g2).1,y,u,g2,by rw [← hideRow_excl h2];exact h2,by rw [← g5];exact h3,h4⟩
    · have hex:ExBlk H B k b:=⟨x,u,g2,h2,by rw [← g3];exact h3,h4⟩
      refine .inr ⟨hex,fun hin=>?_⟩
      obtain ⟨i,hi⟩:=(hbl b).1 hin
      obtain ⟨k',hk',e2⟩:=exUp i b hi
      have:=hm.sat.sep _ _ _ hex e2
      subst this
      exact g4 i b hk' hi
  have rdOut:∀ k b,RdBlk (Eff.run ⟨outMuts (outer ks n) ks Hl H',(H'.drop ks.length).map fun b=>(hideRow b).ren (outer ks n)⟩ H) B' k b→RdBlk H B k b:=by
    rintro k b ⟨m,sz,ff,u,h1,h2,h3,h4,h5⟩
    rcases cls k _ h1 with ⟨i,y,g1,g2,e,g5⟩ | ⟨g1,g2,g3,g4⟩
    · exact (hideRow_row (Blk.ren_row e.symm)).elim
    · exact ⟨m,sz,ff,u,g2,h2,h3,by rw [← g3];exact h4,h5⟩
  have hgl:∀ i b,ExBlk H' Bl' i b→b ∈ bl ∨ w.heap.size≤b:=fun i b h=>hm'.good i b h
  have blIn:∀ b,b ∈ bl→∃ k,ExBlk H B k b:=fun b hb=>by
    obtain ⟨i,hi⟩:=(hbl b).1 hb
    obtain ⟨k,_,e⟩:=exUp i b hi
    exact ⟨k,e⟩
  refine ⟨_,_,B',x,hQ,List.prefix_append _ _,rfl,SV.ren_to hρ hx,⟨⟨?_,fun k x u hk hu=>?_,fun k j b h1 h2=>?_,fun k j b h1 h2=>?_⟩,⟨?_,?_,?_,?_,fun k hk hnb=>?_⟩,fun k b hk=>?_⟩⟩
  · have : (Eff.run ⟨outMuts (outer ks n) ks Hl H',(H'.drop ks.length).map fun b=>(hideRow b).ren (outer ks n)⟩ H).length=(Hf++(H'.drop ks.length).map (fun b=>(hideRow b).ren (outer ks n))).length:=by
      unfold Eff.run
      split
      · rename_i h0
        simp only at h0
        rw [h0,List.append_nil]
      · rfl
    rw [this]
    simp only [B',List.length_append,List.length_drop,List.length_map,hHf,hm.sat.len,hlen']
  · rcases cls k x hk with ⟨i,y,g1,g2,rfl,g5⟩ | ⟨g1,g2,g3,g4⟩
    · exact Blk.ren_sat hρ (hideRow_sat (hm'.sat.blk i y u g2 (by rw [← g5];exact hu)))
    · rw [g3] at hu
      have h0:=hm.sat.blk k x u g2 hu
      have hpre':B <+: B':=List.prefix_append _ _
      cases hxe:x.excl
      · cases x with
        | gone=>trivial
        | row m sz ff =>
          obtain ⟨p,cap,rfl,e1,e2,e3⟩:=h0
          refine ⟨p,cap,rfl,e1,e2,fun i j hi hj=>?_⟩
          obtain ⟨a,rfl,hc⟩:=e3 i j hi hj
          refine ⟨a,rfl,?_⟩
          have hlt:=cell_lt hc
          rw [addr_add_block] at hlt
          refine (World.cell?_of_block ?_).trans hc
          rw [addr_add_block]
          refine hm'.keeps.block _ hlt fun hin=>?_
          obtain ⟨k',e⟩:=blIn _ hin
          exact hm.sat.far k' k _ e ⟨m,sz,ff,_,g2,by omega,by omega,hu,rfl⟩
        | own _=>cases hxe
        | arr _ _ _=>cases hxe
        | vec _ _ _ _ _=>cases hxe
        | lst _ _ _ _=>cases hxe
        | que _ _ _ _ _=>cases hxe
        | ext _=>cases hxe
      · refine (h0.mono hpre').kept hm'.keeps.size fun b hb hlt=>hm'.keeps.block b hlt fun hin=>?_
        obtain ⟨i,hi⟩:=(hbl b).1 hin
        obtain ⟨k',hk',e2⟩:=exUp i b hi
        have:=hm.sat.sep _ _ _ ⟨x,u,g2,hxe,hu,hb⟩ e2
        subst this
        exact g4 i b hk' hi
  · rcases exOut k b h1 with ⟨i,rfl,hi,e1⟩ | ⟨e1,n1⟩ <;> rcases exOut j b h2 with ⟨i',rfl,hi',e2⟩ | ⟨e2,n2⟩
    · rw [hm'.sat.sep _ _ _ e1 e2]
    · rcases hgl _ _ e1 with g | g
      · exact absurd g n2
      · have:=hm.sat.ex_lt e2;omega
    · rcases hgl _ _ e2 with g | g
      · exact absurd g n1
      · have:=hm.sat.ex_lt e1;omega
    · exact hm.sat.sep _ _ _ e1 e2
  · have h2:=rdOut _ _ h2
    rcases exOut k b h1 with ⟨i,rfl,hi,e1⟩ | ⟨e1,n1⟩
    · rcases hgl _ _ e1 with g | g
      · obtain ⟨k',e⟩:=blIn _ g
        exact hm.sat.far _ _ _ e h2
      · have:=hm.sat.rd_lt h2;omega
    · exact hm.sat.far _ _ _ e1 h2
  · exact hm'.keeps.os.trans hm.keeps.os
  · exact hm'.keeps.tape.trans hm.keeps.tape
  · exact hm'.keeps.output.trans hm.keeps.output
  · exact Nat.le_trans hm.keeps.size hm'.keeps.size
  · refine (hm'.keeps.block k (Nat.lt_of_lt_of_le hk hm.keeps.size) fun hin=>?_).trans (hm.keeps.block k hk hnb)
    obtain ⟨k',e⟩:=blIn _ hin
    rcases hm.good _ _ e with g | g
    · exact hnb g
    · omega
  · rcases exOut k b hk with ⟨i,rfl,hi,e1⟩ | ⟨e1,n1⟩
    · rcases hgl _ _ e1 with g | g
      · obtain ⟨k',e⟩:=blIn _ g
        exact hm.good _ _ e
      · exact .inr (by have:=hm.keeps.size;omega)
    · exact hm.good _ _ e1
theorem liftG_ok {P:Program} {F:LTab} (hF:LOk P F):GOk P (liftG F):=by
  intro f ss g n t ht
  unfold liftG at ht
  simp only at ht
  generalize hks:reach g 100 (SV.letss ss) []=ks at ht
  split at ht
  case h_2=>cases ht
  rename_i Hl ss' hblks hlocs
  cases hb:(nodupN ks && ks.all fun k=>Nat.blt k n)
  · rw [hb] at ht;cases ht
  rw [hb,cond_true] at ht
  simp only [Bool.and_eq_true] at hb
  obtain ⟨hnd,hall⟩:=hb
  obtain ⟨hHl,hget⟩:=blks_get hblks
  have up:∀ (H:List Blk),(∀ k x,g k=some x→H[k]?=some x)→∀ (i:Nat) (x:Blk),Hl[i]?=some x→∃ k y,ks[i]?=some k∧H[k]?=some y∧y.loc ks=some x:=by
    intro H hg i x hi
    have hil:i < ks.length:=by rw [← hHl];exact (List.getElem?_eq_some_iff.1 hi).1
    obtain ⟨b,b',h1,h2,h3⟩:=hget i _ (List.getElem?_eq_getElem hil)
    rw [hi,Option.some.injEq] at h3
    subst h3
    exact ⟨_,b,List.getElem?_eq_getElem hil,hg _ _ h1,h2⟩
  split at ht
  · rename_i t0 ht0
    simp only [Option.some.injEq] at ht
    subst ht
    obtain ⟨hgo,hcalls⟩:=hF f ss' Hl t0 ht0
    refine ⟨hgo,fun w0 bs H B w vs hm hg hn hvs Qs hq=>lift_core hlocs hnd hall hHl hcalls hm hn hvs (fun i x hi=>?_) hq⟩
    obtain ⟨k,y,h1,h2,h3⟩:=up H hg i x hi
    exact ⟨k,y,x,h1,h2,h3,.inl rfl⟩
  · rw [Option.map_eq_some_iff] at ht
    obtain ⟨t0,ht0,rfl⟩:=ht
    obtain ⟨hgo,hcalls⟩:=hF f ss' _ t0 ht0
    refine ⟨hgo,fun w0 bs H B w vs hm hg hn hvs Qs hq=>lift_core hlocs hnd hall (by simpa using hHl) hcalls hm hn hvs (fun i x hi=>?_) hq⟩
    rw [List.getElem?_map,Option.map_eq_some_iff] at hi
    obtain ⟨x',hi',rfl⟩:=hi
    obtain ⟨k,y,h1,h2,h3⟩:=up H hg i x' hi'
    exact ⟨k,y,x',h1,h2,h3,.inr rfl⟩
def noF:LTab:=fun _ _ _=>none
theorem noF_ok {P:Program}:LOk P noF:=fun _ _ _ _ h=>by cases h
def addF (k:FuncId) (h:List SV→List Blk→Option (T (SV×List Blk))) (F:LTab):LTab:=fun f ss H=>bif Nat.beq f k then h (ss.map openS) (H.map openBlk) else F f ss H
def EntryOk (P:Program) (k:FuncId) (h:List SV→List Blk→Option (T (SV×List Blk))):Prop :=
  ∀ ss H t,h ss H=some t→∀ (bs:List Nat) (B:List Value) (w:World) (vs:List Value),Mem w bs H B w→SV.tos B ss=some vs→∀ Qs:SV×List Blk→Prop,t.ok Qs →
      Calls P k vs.toArray w fun e w'=>∃ s H' B' x,Qs (s,H')∧B <+: B'∧e = .returned x∧s.to B'=some x∧Mem w bs H' B' w'
theorem addF_ok {P:Program} {k:FuncId} {h:List SV→List Blk→Option (T (SV×List Blk))} {F:LTab} (hF:LOk P F) (hg:isGo P k=true) (hh:EntryOk P k h):LOk P (addF k h F):=by
  intro f ss H t hf
  unfold addF at hf
  cases hb:Nat.beq f k
  · rw [hb] at hf;exact hF f ss H t hf
  · rw [hb,cond_true] at hf
    obtain rfl:f=k:=Nat.eq_of_beq_eq_true hb
    exact ⟨hg,fun bs B w vs hm hv=>hh _ _ t hf bs B w vs (openBlk_mem hm) (by rw [opens_tos];exact hv)⟩
def addT (k:FuncId) (h:List SV→List Blk→Option (T (SV×List Blk))) (F:LTab):LTab:=fun f ss H=>bif Nat.beq f k then h ss H else F f ss H
theorem addT_ok {P:Program} {k:FuncId} {h:List SV→List Blk→Option (T (SV×List Blk))} {F:LTab} (hF:LOk P F) (hg:isGo P k=true) (hh:EntryOk P k h):LOk P (addT k h F):=by
  intro f ss H t hf
  unfold addT at hf
  cases hb:Nat.beq f k
  · rw [hb] at hf;exact hF f ss H t hf
  · rw [hb,cond_true] at hf
    obtain rfl:f=k:=Nat.eq_of_beq_eq_true hb
    exact ⟨hg,hh ss H t hf⟩
def both (P:Program) (S:Tab) (F:LTab) (fs:List Nat):Cfg:=⟨S,liftG F,effE P fs,[],[]⟩
theorem both_ok {P:Program} {S:Tab} {F:LTab} {fs:List Nat} (hS:TabOk P S) (hF:LOk P F):CfgOk P (both P S F fs):=⟨hS,liftG_ok hF⟩
def inl (P:Program) (C:Cfg) (L:Nat→St→Option (T (Ex×St))) (fn:Func):List SV→List Blk→Option (T (SV×List Blk)):=fun ss H=>some (runF P C L fn (fn.body.getD .skip) ss H)
theorem inl_ok {P:Program} {C:Cfg} (hC:CfgOk P C) (hP:P.follows .mixedOrders=true) {L:Nat→St→Option (T (Ex×St))} {f:FuncId} {fn:Func} (hf:P.funcs[f]?=some fn) (hb:fn.body.isSome=true) (hlex:lexAll C (fn.body.getD .skip)=true)
    (hL:∀ id body,(id,body) ∈ loopsOf (fn.body.getD .skip)→∀ st t,L id st=some t→RunOk P fn.ntmps (.block id (.loop body)) st t) :
    EntryOk P f (inl P C L fn):=by
  intro ss H t h bs B w vs hm hvs Qs hq
  simp only [inl,Option.some.injEq] at h
  subst h
  have hb':fn.body=some (fn.body.getD .skip):=by
    cases h:fn.body with
    | none=>rw [h] at hb;cases hb
    | some c=>rfl
  refine (calls_of_runF hC hP hf hb' hlex hL hvs hm hq).mono ?_
  rintro e w' ⟨s,H',B',x,h1,h2,h3,h4,h5⟩
  exact ⟨s,H',B',x,h1,h2,h4,h3,h5⟩
theorem tree_ok {P:Program} {C:Cfg} (hC:CfgOk P C) (hP:P.follows .mixedOrders=true) {L:Nat→St→Option (T (Ex×St))} {f:FuncId} {fn:Func} (hf:P.funcs[f]?=some fn) (hb:fn.body.isSome=true) (hlex:lexAll C (fn.body.getD .skip)=true)
    (hL:∀ id body,(id,body) ∈ loopsOf (fn.body.getD .skip)→∀ st t,L id st=some t→RunOk P fn.ntmps (.block id (.loop body)) st t)
    {ss:List SV} {H:List Blk} {t t':T (SV×List Blk)} (ht:runF P C L fn (fn.body.getD .skip) ss H=t') (htt:∀ Qs:SV×List Blk→Prop,t.ok Qs→t'.ok Qs) {bs:List Nat} {B:List Value} {w:World} {vs:List Value} (hm:Mem w bs H B w) (hvs:SV.tos B ss=some vs) {Qs:SV×List Blk→Prop} (hq:t.ok Qs) :
    Calls P f vs.toArray w fun e w'=>∃ s H' B' x,Qs (s,H')∧B <+: B'∧e = .returned x∧s.to B'=some x∧Mem w bs H' B' w' :=
  inl_ok hC hP hf hb hlex hL ss H _ rfl bs B w vs hm hvs Qs (ht ▸ htt Qs hq)
def goTrim (m:Nat) (r:SV×List Blk):T (SV×List Blk):=bif r.1.under m then .leaf (r.1,(r.2.take m).map (cutBlk m)) else .stuck 131
def trimE (h:List SV→List Blk→Option (T (SV×List Blk))):List SV→List Blk→Option (T (SV×List Blk)):=fun ss H=>(h ss H).map fun t=>t.bind (goTrim H.length)
theorem trimE_ok {P:Program} {k:FuncId} {h:List SV→List Blk→Option (T (SV×List Blk))} (hh:EntryOk P k h):EntryOk P k (trimE h):=by
  intro ss H t ht bs B w vs hm hv Qs hq
  simp only [trimE,Option.map_eq_some_iff] at ht
  obtain ⟨t0,h0,rfl⟩:=ht
  refine (hh ss H t0 h0 bs B w vs hm hv _ (T.ok_bind hq)).mono ?_
  rintro e w' ⟨s,H',B',x,hQ,hp,rfl,hx,hm'⟩
  unfold goTrim at hQ
  cases hu:SV.under H.length s
  · simp only [hu] at hQ;exact hQ.elim
  · simp only [hu,cond_true] at hQ
    have hl:B.length=H.length:=hm.sat.len
    have hm2:=only_mem hm' hp
    rw [hl] at hm2
    refine ⟨s,_,B,x,hQ,List.prefix_refl _,rfl,?_,hm2⟩
    rw [SV.under_to hp (by rw [hl];exact hu)];exact hx
theorem treeT_ok {P:Program} {C:Cfg} (hC:CfgOk P C) (hP:P.follows .mixedOrders=true) {L:Nat→St→Option (T (Ex×St))} {f:FuncId} {fn:Func} (hf:P.funcs[f]?=some fn) (hb:fn.body.isSome=true) (hlex:lexAll C (fn.body.getD .skip)=true)
    (hL:∀ id body,(id,body) ∈ loopsOf (fn.body.getD .skip)→∀ st t,L id st=some t→RunOk P fn.ntmps (.block id (.loop body)) st t)
    {ss:List SV} {H:List Blk} {t t':T (SV×List Blk)} (ht:runF P C L fn (fn.body.getD .skip) ss H=t') (htt:∀ Qs:SV×List Blk→Prop,t.ok Qs→t'.ok fun r=>(goTrim H.length r).ok Qs) {bs:List Nat} {B:List Value} {w:World} {vs:List Value} (hm:Mem w bs H B w) (hvs:SV.tos B ss=some vs) {Qs:SV×List Blk→Prop} (hq:t.ok Qs) :
    Calls P f vs.toArray w fun e w'=>∃ s H' B' x,Qs (s,H')∧B <+: B'∧e = .returned x∧s.to B'=some x∧Mem w bs H' B' w' :=
  trimE_ok (inl_ok hC hP hf hb hlex hL) ss H (t'.bind (goTrim H.length)) (by simp only [trimE,inl,ht,Option.map_some]) bs B w vs hm hvs Qs (T.bind_ok (htt Qs hq))
def addI (k:FuncId) (P:Program) (C:Cfg) (L:Nat→St→Option (T (Ex×St))) (fn:Func) (S:Tab):Tab:=fun f xs=>bif Nat.beq f k then some (runV P C L fn xs) else S f xs
theorem addI_ok {P:Program} {C:Cfg} {S:Tab} (hS:TabOk P S) (hC:CfgOk P C) (hP:P.follows .mixedOrders=true) {L:Nat→St→Option (T (Ex×St))} {k:FuncId} {fn:Func} (hf:P.funcs[k]?=some fn) (hg:isGo P k=true) (hb:fn.body.isSome=true) (hlex:lexAll C (fn.body.getD .skip)=true)
    (hL:∀ id body,(id,body) ∈ loopsOf (fn.body.getD .skip)→∀ st t,L id st=some t→RunOk P fn.ntmps (.block id (.loop body)) st t):TabOk P (addI k P C L fn S):=by
  intro f xs t h
  unfold addI at h
  cases hbq:Nat.beq f k
  · rw [hbq] at h;exact hS f xs t h
  · rw [hbq,cond_true,Option.some.injEq] at h
    obtain rfl:f=k:=Nat.eq_of_beq_eq_true hbq
    subst h
    exact ⟨hg,fun v hv w=>calls_runV hC hP hf hb hlex hL rfl hv w⟩
end Go.Proofs.YthacfgaacleaeaaGreatDoor.Sym
namespace Go.Proofs.YthacfgaacleaeaaGreatDoor.Sym
open Go.IntKind (i64 u32)
open Go.RowKit
section
variable {P:Program} {C:Cfg}
def trimT (m:Nat) (t:T (SV×List Blk)):T (SV×List Blk):=t.bind (goTrim m)
theorem trimT_ok (hC:CfgOk P C) (hP:P.follows .mixedOrders=true) {L:Nat→St→Option (T (Ex×St))} {f:FuncId} {fn:Func} (hf:P.funcs[f]?=some fn) (hb:fn.body.isSome=true) (hlex:lexAll C (fn.body.getD .skip)=true)
    (hL:∀ id body,(id,body) ∈ loopsOf (fn.body.getD .skip)→∀ st t,L id st=some t→RunOk P fn.ntmps (.block id (.loop body)) st t)
    {ss:List SV} {H:List Blk} {t':T (SV×List Blk)} (ht:trimT H.length (runF P C L fn (fn.body.getD .skip) ss H)=t') {bs:List Nat} {B:List Value} {w:World} {vs:List Value} (hm:Mem w bs H B w) (hvs:SV.tos B ss=some vs) {Qs:SV×List Blk→Prop} (hq:t'.ok Qs) :
    Calls P f vs.toArray w fun e w'=>∃ s H' B' x,Qs (s,H')∧B <+: B'∧e = .returned x∧s.to B'=some x∧Mem w bs H' B' w' :=
  trimE_ok (inl_ok hC hP hf hb hlex hL) ss H t' (by simp only [trimE,inl,Option.map_some];rw [← ht];rfl) bs B w vs hm hvs Qs hq
def runO (P:Program) (C:Cfg) (L:Nat→St→Option (T (Ex×St))) (fn:Func) (ss:List SV) (H:List Blk):T Value:=(runF P C L fn (fn.body.getD .skip) ss H).bind onlyV
theorem calls_runO (hC:CfgOk P C) (hP:P.follows .mixedOrders=true) {L:Nat→St→Option (T (Ex×St))} {f:FuncId} {fn:Func} (hf:P.funcs[f]?=some fn) (hb:fn.body.isSome=true) (hlex:lexAll C (fn.body.getD .skip)=true)
    (hL:∀ id body,(id,body) ∈ loopsOf (fn.body.getD .skip)→∀ st t,L id st=some t→RunOk P fn.ntmps (.block id (.loop body)) st t)
    {ss:List SV} {H:List Blk} {t:T Value} (ht:runO P C L fn ss H=t) {v:Value} (hq:t.ok fun x=>x=v) {B vs:List Value} {w:World} (hm:Mem w [] H B w) (hv:SV.tos B ss=some vs) :
    Calls P f vs.toArray w fun e w'=>e = .returned v∧Below w.heap.size w w':=by
  obtain ⟨c,hc⟩:=Option.isSome_iff_exists.1 hb
  rw [hc,Option.getD_some] at hlex hL
  subst ht
  unfold runO at hq
  rw [hc,Option.getD_some] at hq
  refine (calls_of_runF hC hP hf hc hlex hL hv hm (T.ok_bind hq)).mono ?_
  rintro e w' ⟨s,H',B',x,h1,_,h3,rfl,hm'⟩
  refine ⟨?_,hm'.keeps.below⟩
  unfold onlyV at h1
  simp only at h1
  split at h1
  · rename_i y hy
    have h1:y=v:=h1
    have:=SV.plain_to hy B'
    rw [h3] at this
    simp only [Option.some.injEq] at this
    rw [this,h1]
  · exact h1.elim
end
end Go.Proofs.YthacfgaacleaeaaGreatDoor.Sym
namespace Go.Proofs.YthacfgaacleaeaaGreatDoor.Sym
open Go.IntKind (i64 u32)
open Go.RowKit
end Go.Proofs.YthacfgaacleaeaaGreatDoor.Sym
namespace Go.Proofs.YthacfgaacleaeaaGreatDoor.Oct
open Go.IntKind (i64 u32)
def be (u:Nat):Nat→List UInt8
  | 0=>[]
  | k+1=>UInt8.ofNat (u / 256 ^ k) :: be u k
def u64 (n:Int):Nat:=(n % 18446744073709551616).toNat
def val (l:List UInt8):Nat:=l.foldl (fun n b=>256 * n+b.toNat) 0
def put (s:ByteArray) (n k:Int):ByteArray:=⟨(s.data.toList++be (u64 n) k.toNat).toArray⟩
theorem be_length (u k:Nat):(be u k).length=k:=by induction k <;> simp_all [be]
theorem be_drop (u k j:Nat) (h:j≤k):(be u k).drop (k - j)=be u j:=by
  induction k with
  | zero => obtain rfl:j=0:=by omega
            rfl
  | succ k ih =>
    by_cases e:j=k+1
    · subst e;simp
    · rw [show k+1 - j=(k - j)+1 by omega]
      simpa [be] using ih (by omega)
theorem be_snoc (u k j:Nat) (h:j < k):(be u k).take (k - (j+1))++[UInt8.ofNat (u / 256 ^ j)]=(be u k).take (k - j):=by
  have h1:=be_drop u k (j+1) (by omega)
  have hl:=be_length u k
  have h2:k - (j+1) < (be u k).length:=by omega
  rw [show k - j=(k - (j+1))+1 by omega,List.take_succ_eq_append_getElem h2]
  congr 1
  rw [List.drop_eq_getElem_cons h2] at h1
  simp only [be,List.cons.injEq] at h1
  rw [h1.1]
theorem be_full (u k:Nat):(be u k).take (k - 0)=be u k:=by
  have:=be_length u k
  rw [List.take_of_length_le (by omega)]
theorem be_none (u k:Nat):(be u k).take (k - k)=[]:=by simp
theorem u64_cast (n:Int):(u64 n:Int)=n % 18446744073709551616:=by unfold u64;omega
theorem byte_of (u j:Nat):(((UInt8.ofNat (u / 256 ^ j)).toNat:Nat):Int)=((u:Int) / 2 ^ (8 * j)) % 256:=by
  have:(256:Nat) ^ j=2 ^ (8 * j):=by rw [Nat.pow_mul]
  rw [this]
  simp only [UInt8.toNat_ofNat']
  generalize 8 * j=m
  have h1:((u / 2 ^ m:Nat):Int)=(u:Int) / 2 ^ m:=by rw [Int.natCast_ediv,Int.natCast_pow];rfl
  rw [← h1]
  generalize u / 2 ^ m=q
  omega
theorem or_low (a b:Nat) (hb:b < 256):bits .or .u64 (IntKind.u64.wrap ((a:Int) * 256)) (IntKind.u64.wrap (b:Int))=(((256 * a+b) % 18446744073709551616:Nat):Int):=by
  have e1:IntKind.u64.wrap ((a:Int) * 256)=(((a * 256) % 18446744073709551616:Nat):Int):=by
    simp only [IntKind.wrap,IntKind.bits,IntKind.signed];simp
  have e2:IntKind.u64.wrap (b:Int)=((b:Nat):Int):=by
    simp only [IntKind.wrap,IntKind.bits,IntKind.signed];simp;omega
  rw [e1,e2,u64_or_nat _ _ (by omega) (by omega),nat_join 8 _ _ (by omega) (by omega)]
  omega
theorem foldl_lt (l:List UInt8) (a:Nat):l.foldl (fun n b=>256 * n+b.toNat) a < (a+1) * 256 ^ l.length:=by
  induction l generalizing a with
  | nil=>simp
  | cons b l ih =>
    have hb:b.toNat < 256:=b.toNat_lt
    refine Nat.lt_of_lt_of_le (ih _) ?_
    rw [List.length_cons,Nat.pow_succ,Nat.mul_comm (256 ^ l.length) 256,← Nat.mul_assoc]
    exact Nat.mul_le_mul_right _ (by show 256 * a+b.toNat+1≤_;omega)
theorem val_lt (l:List UInt8):val l < 256 ^ l.length:=by
  have:=foldl_lt l 0
  simpa [val] using this
theorem val_small {l:List UInt8} (h:l.length≤7):val l < 72057594037927936 :=
  Nat.lt_of_lt_of_le (val_lt l) (Nat.pow_le_pow_right (by decide) h)
theorem put_size (s:ByteArray) (n k:Int):(put s n k).size=s.size+k.toNat:=by
  show (s.data.toList++be (u64 n) k.toNat).toArray.size=_
  simp [be_length]
end Go.Proofs.YthacfgaacleaeaaGreatDoor.Oct
namespace Go.Proofs.YthacfgaacleaeaaGreatDoor
open Go.IntKind (i64 u32)
open Go.RowKit
def Buf (w:World) (base:Nat) (v:Value) (l:List UInt8):Prop :=
  ∃ g cap,v = .slice (some ⟨g,0,none⟩) l.length cap∧base≤g∧g < w.heap.size∧l.length≤cap∧cap≤maxLen ∧
    (∀ j,j < cap→(w.cell? ⟨g,j,none⟩).isSome=true∧w.frozen? ⟨g,j,none⟩=false)∧∀ j (h:j < l.length),w.cell? ⟨g,j,none⟩=some (.int .u8 (l[j].toNat:Int))
theorem Buf.below {w w1:World} {base:Nat} {v:Value} {l:List UInt8} (h:Buf w base v l) (hb:Below w.heap.size w w1):Buf w1 base v l:=by
  obtain ⟨g,cap,hv,h1,h2,h3,h4,h5,h6⟩:=h
  refine ⟨g,cap,hv,h1,Nat.lt_of_lt_of_le h2 hb.size,h3,h4,fun j hj=>?_,fun j hj=>?_⟩
  · rw [hb.cell (p:=⟨g,j,none⟩) h2,hb.frozen (p:=⟨g,j,none⟩) h2];exact h5 j hj
  · rw [hb.cell (p:=⟨g,j,none⟩) h2];exact h6 j hj
theorem Buf.alloc {w:World} {base:Nat} {v:Value} {l:List UInt8} (h:Buf w base v l) (o:Obj):Buf (w.alloc o) base v l :=
  h.below ((Below.refl _ _).alloc (Nat.le_refl _) o)
theorem cell_marked (w:World) (C:Array Value) (t:TypeId) (a b j:Nat):(w.alloc (.cells C t (a,b))).cell? ⟨w.heap.size,j,none⟩=C[j]?:=by
  have h0:=heap_alloc_new w (.cells C t (a,b))
  unfold World.cell?
  simp only [h0]
  rfl
theorem frozen_marked (w:World) (C:Array Value) (t:TypeId) (a b j:Nat) (h:j < a):(w.alloc (.cells C t (a,b))).frozen? ⟨w.heap.size,j,none⟩=false:=by
  have h0:=heap_alloc_new w (.cells C t (a,b))
  unfold World.frozen?
  simp only [h0]
  simp;omega
theorem buf_of_string (w:World) (s:ByteArray) (e:TypeId) (hs:s.size≤maxLen) :
    Buf (w.drew.alloc (.cells (bytesRow s (grownCap w s.size 0 e)) e ((bytesRow s (grownCap w s.size 0 e)).size,(bytesRow s (grownCap w s.size 0 e)).size+1))) w.heap.size
      (.slice (some ⟨w.heap.size,0,none⟩) s.size (grownCap w s.size 0 e)) s.data.toList:=by
  have hge:=grownCap_ge w s.size 0 e
  have hle:=grownCap_le_maxLen w s.size 0 e hs
  have hsz:s.data.size=s.size:=rfl
  generalize grownCap w s.size 0 e=cap at *
  have hrow:(bytesRow s cap).size=cap:=by simp [bytesRow,hsz];omega
  refine ⟨w.heap.size,cap,by simp [hsz],Nat.le_refl _,by simp,by simpa [hsz] using hge,hle,fun j hj=>⟨?_,?_⟩,fun j hj=>?_⟩
  · have:=cell_marked w.drew (bytesRow s cap) e (bytesRow s cap).size ((bytesRow s cap).size+1) j
    simp only [World.size_drew] at this
    rw [this,Array.getElem?_eq_getElem (by omega)];rfl
  · have:=frozen_marked w.drew (bytesRow s cap) e (bytesRow s cap).size ((bytesRow s cap).size+1) j (by omega)
    simpa only [World.size_drew] using this
  · have:=cell_marked w.drew (bytesRow s cap) e (bytesRow s cap).size ((bytesRow s cap).size+1) j
    simp only [World.size_drew] at this
    have hj':j < s.data.size:=by simpa using hj
    rw [this]
    unfold bytesRow
    rw [Array.getElem?_append_left (by simpa using hj')]
    simp [hj']
    exact ⟨_,Array.getElem?_eq_getElem hj',rfl⟩
section
variable {P:Program}
theorem run_buf_append (w:World) (base:Nat) (t ty e:TypeId) (i:TypeInfo) (z:Value) (ht:P.underlying t=some (.slice e)) (hi:P.info? e=some i) (hz:i.zero=some z) (hsize:i.size=1) (hby:i.bytes=1) (hzs:z.cells.size=1)
    (v:Value) (l:List UInt8) (hbuf:Buf w base v l) (a:Addr) (c:Nat) (x:UInt8) (hx:w.cell? a=some (.int .u8 (x.toNat:Int))) (hlen:l.length+1≤140737488355328) (hbase:base≤w.heap.size) :
    ∃ v' w',(Builtin.append_ #[t,t] ty #[v,.slice (some a) 1 c]).run P w = .ok v' w'∧Buf w' base v' (l++[x])∧Below base w w':=by
  obtain ⟨g,cap,rfl,h1,h2,h3,h4,h5,h6⟩:=hbuf
  have hnews:∀ j u,[Value.int .u8 (x.toNat:Int)][j]?=some u→w.cell? (a.add j)=some u:=by
    intro j u hj
    match j,hj with
    | 0,hj=>simp at hj;subst hj;simpa [Addr.add] using hx
  have hone:∀ u ∈ [Value.int .u8 (x.toNat:Int)],u.oneCell'=true:=by intro u hu;simp at hu;subst hu;rfl
  by_cases hroom:l.length+1≤cap
  · refine ⟨_,_,run_append_room_cells (P:=P) w t ty e i ht hi g 0 l.length cap a 1 c [.int .u8 (x.toNat:Int)] (by simp [hsize]) hnews hone hroom ?_ ?_,?_,?_⟩
    · intro j hj
      have:j=0:=by simpa using hj
      subst this
      simpa [hsize] using (h5 l.length (by omega)).1
    · intro j hj
      have:j=0:=by simpa using hj
      subst this
      simpa [hsize] using (h5 l.length (by omega)).2
    · rw [hsize]
      refine ⟨g,cap,by simp,h1,?_,by simpa using hroom,h4,fun j hj=>⟨?_,?_⟩,fun j hj=>?_⟩
      · simpa [World.setCells] using h2
      · obtain ⟨u,hu⟩:=Option.isSome_iff_exists.1 (h5 j hj).1
        simp only [World.setCells,Nat.zero_add,Nat.mul_one]
        by_cases e0:j=l.length
        · subst e0;rw [World.cell?_setCell_same (w:=w) (h:=hu)];rfl
        · rw [World.cell?_setCell_other (w:=w) (h:=fun h=>e0 (by injection h with _ h2;exact h2.symm)),hu];rfl
      · simp only [World.setCells];rw [frozen?_set];exact (h5 j hj).2
      · simp only [World.setCells,Nat.zero_add,Nat.mul_one]
        by_cases e0:j=l.length
        · subst e0
          obtain ⟨u,hu⟩:=Option.isSome_iff_exists.1 (h5 l.length (by omega)).1
          rw [World.cell?_setCell_same (w:=w) (h:=hu)]
          simp
        · have hj':j < l.length:=by simp at hj;omega
          rw [World.cell?_setCell_other (w:=w) (h:=fun h=>e0 (by injection h with _ h2;exact h2.symm)),h6 j hj']
          simp [List.getElem_append_left hj']
    · simp only [World.setCells]
      exact (Below.refl _ _).setCell h1 _
  · obtain ⟨v',w',hr,hown,hg⟩:=run_append_arg_grows (P:=P) w t ty e i z 1 1 ht hi hz hsize hby hzs (by decide) ⟨g,0,none⟩ l.length cap (l.map fun b=>Value.int .u8 (b.toNat:Int)) (by simp)
      (by
        intro j u hj
        have hj':j < l.length:=by simpa using (List.getElem?_eq_some_iff.1 hj).1
        have:=h6 j hj'
        simp [hj'] at hj
        subst hj
        simpa [Addr.add_lit] using this)
      a 1 c [.int .u8 (x.toNat:Int)] (by simp) hnews (by omega) (by unfold maxLen;omega) (by omega)
    refine ⟨v',w',hr,?_,⟨hg.os,hg.tape,hg.output,hg.size,fun k hk=>hg.block k (by omega) (by simp)⟩⟩
    obtain ⟨hl,⟨_,h0⟩ | ⟨g',cap',cur,rfl,hb',hgg,hnc,hcm,hcs,htake⟩⟩:=hown
    · omega
    · have hlt:g' < w'.heap.size:=(Array.getElem?_eq_some_iff.1 hgg).1
      refine ⟨g',cap',by simp,by omega,hlt,by simpa using hnc,hcm,fun j hj=>⟨?_,?_⟩,fun j hj=>?_⟩
      · rw [cell_of_row w' g' j cur e (0,0) hgg,Array.getElem?_eq_getElem (by omega)];rfl
      · simp [World.frozen?,hgg]
      · rw [cell_of_row w' g' j cur e (0,0) hgg]
        have hj2:j < l.length+1:=by simpa using hj
        have:(cur.toList.take ((l.length+1) * 1))[j]?=some (.int .u8 ((l++[x])[j].toNat:Int)):=by
          rw [htake]
          have:(List.map (fun b:UInt8=>Value.int .u8 (b.toNat:Int)) l++[Value.int .u8 (x.toNat:Int)])=(l++[x]).map (fun b:UInt8=>Value.int .u8 (b.toNat:Int)):=by simp
          rw [this,List.getElem?_map,List.getElem?_eq_getElem hj];rfl
        rw [List.getElem?_take] at this
        rw [if_pos (by omega)] at this
        simpa using this
theorem wpList_buf_append (w:World) {ops:Array Oper} {rest:List Oper} {o:Oper} {a:Act} {Q:Exit→Act→World→Prop} (hgd:o.guard=none) (s y:Operand) (t:TypeId)
    (ho:o.op = .call { callee:=.builtin .append,args:=#[s,y],argTypes:=#[t,t] })
    (base:Nat) (e:TypeId) (i:TypeInfo) (z:Value) (ht:P.underlying t=some (.slice e)) (hi:P.info? e=some i) (hz:i.zero=some z) (hsize:i.size=1) (hby:i.bytes=1) (hzs:z.cells.size=1)
    (v:Value) (l:List UInt8) (hs:a.eval s=v) (hbuf:Buf w base v l) (ad:Addr) (c:Nat) (x:UInt8) (hy:a.eval y = .slice (some ad) 1 c) (hx:w.cell? ad=some (.int .u8 (x.toNat:Int))) (hlen:l.length+1≤140737488355328) (hbase:base≤w.heap.size)
    (h:∀ v' w',Buf w' base v' (l++[x])→Below base w w'→wpList P ops Q rest (a.put o.dst v') w'):wpList P ops Q (o :: rest) a w:=by
  refine wpList_plain hgd fun K hK=>?_
  obtain ⟨v',w',hr,h1,h2⟩:=run_buf_append (P:=P) w base t o.type e i z ht hi hz hsize hby hzs v l hbuf ad c x hx hlen hbase
  unfold Oper.wp execOp
  simp only [ho,resolve,invoke,builtin,Sem.run_bind,Sem.run_pure,Result.andThen_ok,List.map_toArray,List.map_cons,List.map_nil,hs,hy,hr]
  exact hK _ _ (h v' w' h1 h2)
theorem run_buf_string (w:World) (base:Nat) (src dst e:TypeId) (v:Value) (l:List UInt8) (hs:P.underlying src=some (.slice e)) (he:P.underlying e=some (.int .u8)) (hd:P.underlying dst=some .string) (hbuf:Buf w base v l) :
    (convert src dst v).run P w = .ok (.string ⟨l.toArray⟩) w:=by
  obtain ⟨g,cap,rfl,h1,h2,h3,h4,h5,h6⟩:=hbuf
  exact run_convert_bytes_back (P:=P) w src dst e ⟨g,0,none⟩ cap l hs he hd fun j hj=>by rw [Addr.add_lit];simpa using h6 j hj
end
end Go.Proofs.YthacfgaacleaeaaGreatDoor
namespace Go.Proofs.YthacfgaacleaeaaGreatDoor
open Go.IntKind (i64 u32)
open Go.RowKit
theorem info_u8:(Tryz.prog.info? 5).map (fun i=>(i.zero,i.size,i.bytes))=some (some (.int .u8 0),1,1):=by kernel_rfl
set_option maxRecDepth 100000 in
set_option maxHeartbeats 400000 in
theorem oct_put (s:ByteArray) (n:Int) (k:Nat) (hk:k≤8) (hs:s.size≤1099511627776) (w:World) :
    Calls Tryz.prog 52 #[.string s,.int .i64 n,.int .i64 k] w fun e w'=>e = .returned (.string ⟨(s.data.toList++Oct.be (Oct.u64 n) k).toArray⟩)∧Below w.heap.size w w':=by
  obtain ⟨i0,hi,hz0,hz1,hz2⟩:=info_parts info_u8
  have hconv:=fun W=>run_bytes_of_string (P:=Tryz.prog) W 9 60 5 s Tryz.underlying9 Tryz.underlying60 Tryz.underlying5
  go_enter Tryz.func52,Tryz.ntmps52
  go_wp2_with fail
  have hB:=buf_of_string w s 5 (by unfold maxLen;omega)
  generalize grownCap w s.size 0 5=cap0 at *
  go_loopw [7,8] (fun v i wr=>∃ j:Nat,j≤k∧i = .int .i64 ((j:Int) - 1)∧Buf wr w.heap.size v (s.data.toList++(Oct.be (Oct.u64 n) k).take (k - j))∧Below w.heap.size w wr)
    (fun _ i _=>(intOf i+1).toNat)
  case atStart=>exact ⟨k,Nat.le_refl _,rfl,by rw [Oct.be_none,List.append_nil];exact hB,by (repeat' (first | (with_reducible exact Below.refl _ _) | (with_reducible refine below_alloc ?_ _) | (with_reducible refine Below.drew ?_) | (with_reducible refine below_drewN ?_ _) | (with_reducible refine Below.setCell ?_ ?_ _) | (with_reducible assumption) | (with_reducible refine below_of ?_ (by assumption)) | omega | (simp only [World.size_alloc,World.size_setCell,World.size_drew,size_drewN] at *;omega) | (simp;omega)))⟩
  case round =>
    obtain ⟨j,hj,rfl,hbuf,hbl⟩:=hrel
    clear hB
    have hbs:=hbl.size
    cases j with
    | zero =>
      have hc:=run_buf_string (P:=Tryz.prog) wr w.heap.size 60 9 5 _ _ Tryz.underlying60 Tryz.underlying5 Tryz.underlying9 hbuf
      rw [Oct.be_full] at hc
      go_wp2
      go_ret
      exact ⟨rfl,hbl⟩
    | succ j =>
      have hval:(((j+1:Nat):Int) - 1)=(j:Int):=by omega
      rw [hval]
      clear hval
      have hx0:IntKind.u64.wrap n / 2 ^ (8 * j) % 256=(((UInt8.ofNat (Oct.u64 n / 256 ^ j)).toNat:Nat):Int):=by
        rw [Oct.byte_of,Oct.u64_cast];rfl
      have HX:=Lib.hid hx0
      have hsn:=Oct.be_snoc (Oct.u64 n) k j (by omega)
      have HS:=Lib.hid hsn
      have hsd:s.data.toList.length=s.size:=by simp
      have hln:(s.data.toList++(Oct.be (Oct.u64 n) k).take (k - (j+1))).length+1≤140737488355328:=by
        rw [List.length_append,List.length_take,Oct.be_length,hsd];omega
      have HL:=Lib.hid hln
      clear hx0 hsn hsd hln
      go_wp2_with (at_builtin;refine wpList_buf_append _ rfl _ _ 60 rfl w.heap.size 5 i0 (.int .u8 0) Tryz.underlying60 hi hz0 hz1 hz2 rfl _ _ rfl (hbuf.alloc _) ⟨wr.heap.size,0,none⟩ 1 (UInt8.ofNat (Oct.u64 n / 256 ^ j)) rfl (by rw [← HX.out];simp) HL.out (by simp;omega) ?_;intro v' w1 hbuf' hb')
      rw [List.append_assoc,HS.out] at hbuf'
      go_roundw
      case rel=>exact ⟨j,by omega,rfl,hbuf',by have:=hbl.alloc (Nat.le_of_lt_succ (Nat.lt_succ_of_le hbs)) (.cells #[.int .u8 (IntKind.u64.wrap n / 2 ^ (8 * j) % 256)] 5);exact this.trans hb'⟩
      case measure=>simp [intOf] <;> omega
theorem oct_putL (l:List UInt8) (n k:Int) (hk0:0≤k) (hk:k≤8) (hl:l.length≤1099511627776) (w:World) :
    Calls Tryz.prog 52 #[.string ⟨l.toArray⟩,.int .i64 n,.int .i64 k] w fun e w'=>e = .returned (.string ⟨(l++Oct.be (Oct.u64 n) k.toNat).toArray⟩)∧Below w.heap.size w w':=by
  obtain ⟨m,rfl⟩:=Int.eq_ofNat_of_zero_le hk0
  have:=oct_put ⟨l.toArray⟩ n m (by omega) (by show l.toArray.size≤_;simpa using hl) w
  simpa using this
theorem octv_take (l:List UInt8) (k:Nat) (h:k < l.length):Oct.val (l.take (k+1))=256 * Oct.val (l.take k)+l[k].toNat:=by
  unfold Oct.val
  rw [List.take_succ_eq_append_getElem h,List.foldl_append];rfl
theorem oct_of (s:ByteArray) (hs:s.size≤maxLen) (w:World):Calls Tryz.prog 139 #[.string s] w fun e w'=>e = .returned (.int .i64 (wrap64 (((Oct.val s.data.toList) % 18446744073709551616:Nat):Int)))∧w=w':=by
  unfold maxLen at hs
  go_enter Tryz.func139,Tryz.ntmps139
  go_wp2
  go_loop [3,7] (fun n i=>∃ k:Nat,k≤s.size∧i = .int .i64 k∧n = .int .u64 (((Oct.val (s.data.toList.take k)) % 18446744073709551616:Nat):Int)) (fun _ i=>s.size - (intOf i).toNat)
  case atStart=>exact ⟨0,Nat.zero_le _,rfl,rfl⟩
  case round =>
    obtain ⟨k,hk,rfl,rfl⟩:=hrel
    by_cases hlt:k < s.size
    · have hv:=octv_take s.data.toList k (by simpa using hlt)
      have HV:=Lib.hid hv
      clear hv
      generalize Oct.val (s.data.toList.take k)=v at *
      go_wp2
      go_round
      case rel =>
        refine ⟨k+1,by omega,by go_num,?_⟩
        rw [HV.out]
        have e:s.data.toList[k]'(by simpa using hlt)=s[k]:=by simp;rfl
        rw [e]
        have hb:s[k].toNat < 256:=s[k].toNat_lt
        generalize s[k].toNat=b at *
        congr 1
        have:=Oct.or_low (v % 18446744073709551616) b hb
        rw [show (((v % 18446744073709551616:Nat)):Int)=(v:Int) % 18446744073709551616 by omega] at this
        rw [this]
        omega
      case measure=>simp [intOf];omega
    · go_wp2
      go_ret
      exact ⟨ret_i (by rw [List.take_of_length_le (by simp;omega)]),rfl⟩
end Go.Proofs.YthacfgaacleaeaaGreatDoor
namespace Go.Proofs.YthacfgaacleaeaaGreatDoor
open Go.IntKind (i64 u32)
open Go.RowKit
theorem one_byte (W:World) (x:UInt8) (X:Int) (h:X=((x.toNat:Nat):Int)):(convert 60 9 (.slice (some ⟨W.heap.size,0,none⟩) 1 1)).run Tryz.prog (W.alloc (.cells #[.int .u8 X] 5)) = .ok (.string ⟨#[x]⟩) (W.alloc (.cells #[.int .u8 X] 5)) :=
  run_convert_bytes_back (P:=Tryz.prog) (W.alloc (.cells #[.int .u8 X] 5)) 60 9 5 ⟨W.heap.size,0,none⟩ 1 [x] Tryz.underlying60 Tryz.underlying5 Tryz.underlying9
    (fun j hj=>by
      have:j=0:=by simpa using hj
      subst this
      simp [Addr.add,h])
set_option maxRecDepth 100000 in
set_option maxHeartbeats 400000 in
theorem ref01_put (s:ByteArray) (u:Nat) (hu:u < 18446744073709551616) (k:Nat) (hk:k≤8) (hs:s.size≤1099511627776) (w:World) :
    Calls Tryz.prog 126 #[.string s,.int .u64 u,.int .i64 k] w fun e w'=>e = .returned (.string ⟨(s.data.toList++Oct.be u k).toArray⟩)∧Below w.heap.size w w':=by
  go_enter Tryz.func126,Tryz.ntmps126
  go_wp2_with fail
  go_loopw [1,7,8] (fun n t i wr=>∃ j:Nat,j≤k∧i = .int .i64 j∧n = .int .u64 ((u / 256 ^ j:Nat):Int)∧t = .string ⟨(Oct.be u j).toArray⟩∧Below w.heap.size w wr)
    (fun _ _ i _=>k - (intOf i).toNat)
  case atStart=>exact ⟨0,Nat.zero_le _,rfl,by simp,rfl,Below.refl _ _⟩
  case round =>
    obtain ⟨j,hj,rfl,rfl,rfl,hbl⟩:=hrel
    have hbs:=hbl.size
    by_cases hlt:j < k
    · have h1:(j:Int) < (k:Int):=by omega
      have h8:(j:Int) < 8:=by omega
      have hq:u / 256 ^ j < 18446744073709551616:=Nat.lt_of_le_of_lt (Nat.div_le_self _ _) hu
      generalize hqe:u / 256 ^ j=q at *
      have HQ:=Lib.hid hqe
      clear hqe
      have hcv:=fun W:World=>one_byte W (UInt8.ofNat q) (((q:Nat):Int) % 256) (by rw [UInt8.toNat_ofNat'];omega)
      have hbe:=Oct.be_length u j
      have hl1:¬ 9223372036854775807 < 1+(Oct.be u j).length:=by omega
      have hl2:1+(Oct.be u j).length≤9223372036854775807:=by omega
      clear hbe
      go_wp2
      go_roundw
      case rel =>
        refine ⟨j+1,by omega,by go_num,?_,?_,by (repeat' (first | (with_reducible exact Below.refl _ _) | (with_reducible refine below_alloc ?_ _) | (with_reducible refine Below.drew ?_) | (with_reducible refine below_drewN ?_ _) | (with_reducible refine Below.setCell ?_ ?_ _) | (with_reducible assumption) | (with_reducible refine below_of ?_ (by assumption)) | omega | (simp only [World.size_alloc,World.size_setCell,World.size_drew,size_drewN] at *;omega) | (simp;omega)))⟩
        · rw [Nat.pow_succ,← Nat.div_div_eq_div_mul,HQ.out];rfl
        · show Value.string ⟨_⟩=Value.string ⟨_⟩
          rw [show Oct.be u (j+1)=UInt8.ofNat q :: Oct.be u j by rw [← HQ.out];rfl]
          simp
      case measure=>simp [intOf];omega
    · obtain rfl:j=k:=by omega
      have hbe:=Oct.be_length u j
      have hl2:s.size+(Oct.be u j).length≤9223372036854775807:=by omega
      clear hbe
      go_wp2
      go_ret
      refine ⟨ret_s ?_,hbl⟩
      exact ByteArray.ext (by simp)
theorem ref01_putL (l:List UInt8) (u k:Int) (hu0:0≤u) (hu:u < 18446744073709551616) (hk0:0≤k) (hk:k≤8) (hl:l.length≤1099511627776) (w:World) :
    Calls Tryz.prog 126 #[.string ⟨l.toArray⟩,.int .u64 u,.int .i64 k] w fun e w'=>e = .returned (.string ⟨(l++Oct.be u.toNat k.toNat).toArray⟩)∧Below w.heap.size w w':=by
  obtain ⟨m,rfl⟩:=Int.eq_ofNat_of_zero_le hk0
  obtain ⟨v,rfl⟩:=Int.eq_ofNat_of_zero_le hu0
  have:=ref01_put ⟨l.toArray⟩ v (by omega) m (by omega) (by show l.toArray.size≤_;simpa using hl) w
  simpa using this
theorem val_take (l:List UInt8) (k:Nat) (h:k < l.length):Oct.val (l.take (k+1))=256 * Oct.val (l.take k)+l[k].toNat:=by
  unfold Oct.val
  rw [List.take_succ_eq_append_getElem h,List.foldl_append];rfl
theorem ref01_of (s:ByteArray) (hs:s.size≤maxLen) (w:World):Calls Tryz.prog 97 #[.string s] w fun e w'=>e = .returned (.int .u64 (((Oct.val s.data.toList) % 18446744073709551616:Nat):Int))∧w=w':=by
  unfold maxLen at hs
  go_enter Tryz.func97,Tryz.ntmps97
  go_wp2
  go_loop [3,4] (fun n i=>∃ k:Nat,k≤s.size∧i = .int .i64 k∧n = .int .u64 (((Oct.val (s.data.toList.take k)) % 18446744073709551616:Nat):Int)) (fun _ i=>s.size - (intOf i).toNat)
  case atStart=>exact ⟨0,Nat.zero_le _,rfl,rfl⟩
  case round =>
    obtain ⟨k,hk,rfl,rfl⟩:=hrel
    by_cases hlt:k < s.size
    · have hv:=val_take s.data.toList k (by simpa using hlt)
      have HV:=Lib.hid hv
      clear hv
      generalize Oct.val (s.data.toList.take k)=v at *
      go_wp2
      go_round
      case rel =>
        refine ⟨k+1,by omega,by go_num,?_⟩
        rw [HV.out]
        have e:s.data.toList[k]'(by simpa using hlt)=s[k]:=by simp;rfl
        rw [e]
        have hb:=s[k].toNat_lt
        generalize s[k].toNat=b at *
        congr 1
        simp only [IntKind.wrap,IntKind.bits,IntKind.signed]
        simp
        omega
      case measure=>simp [intOf];omega
    · go_wp2
      go_ret
      exact ⟨ret_i (by rw [List.take_of_length_le (by simp;omega)]),rfl⟩
end Go.Proofs.YthacfgaacleaeaaGreatDoor
namespace Go.Proofs.YthacfgaacleaeaaGreatDoor
open Go.IntKind (i64 u32)
open Go.RowKit
set_option maxRecDepth 100000 in
set_option maxHeartbeats 400000 in
theorem oct32_put (s:ByteArray) (n:Int) (k:Nat) (hk:k≤8) (hs:s.size≤1099511627776) (w:World) :
    Calls Tryz.prog 184 #[.string s,.int .u32 n,.int .i64 k] w fun e w'=>e = .returned (.string ⟨(s.data.toList++Oct.be (Oct.u64 n) k).toArray⟩)∧Below w.heap.size w w':=by
  obtain ⟨i0,hi,hz0,hz1,hz2⟩:=info_parts info_u8
  have hconv:=fun W=>run_bytes_of_string (P:=Tryz.prog) W 9 60 5 s Tryz.underlying9 Tryz.underlying60 Tryz.underlying5
  go_enter Tryz.func184,Tryz.ntmps184
  go_wp2_with fail
  have hB:=buf_of_string w s 5 (by unfold maxLen;omega)
  generalize grownCap w s.size 0 5=cap0 at *
  go_loopw [7,8] (fun v i wr=>∃ j:Nat,j≤k∧i = .int .i64 ((j:Int) - 1)∧Buf wr w.heap.size v (s.data.toList++(Oct.be (Oct.u64 n) k).take (k - j))∧Below w.heap.size w wr)
    (fun _ i _=>(intOf i+1).toNat)
  case atStart=>exact ⟨k,Nat.le_refl _,rfl,by rw [Oct.be_none,List.append_nil];exact hB,by (repeat' (first | (with_reducible exact Below.refl _ _) | (with_reducible refine below_alloc ?_ _) | (with_reducible refine Below.drew ?_) | (with_reducible refine below_drewN ?_ _) | (with_reducible refine Below.setCell ?_ ?_ _) | (with_reducible assumption) | (with_reducible refine below_of ?_ (by assumption)) | omega | (simp only [World.size_alloc,World.size_setCell,World.size_drew,size_drewN] at *;omega) | (simp;omega)))⟩
  case round =>
    obtain ⟨j,hj,rfl,hbuf,hbl⟩:=hrel
    clear hB
    have hbs:=hbl.size
    cases j with
    | zero =>
      have hc:=run_buf_string (P:=Tryz.prog) wr w.heap.size 60 9 5 _ _ Tryz.underlying60 Tryz.underlying5 Tryz.underlying9 hbuf
      rw [Oct.be_full] at hc
      go_wp2
      go_ret
      exact ⟨rfl,hbl⟩
    | succ j =>
      have hval:(((j+1:Nat):Int) - 1)=(j:Int):=by omega
      rw [hval]
      clear hval
      have hx0:IntKind.u64.wrap n / 2 ^ (8 * j) % 256=(((UInt8.ofNat (Oct.u64 n / 256 ^ j)).toNat:Nat):Int):=by
        rw [Oct.byte_of,Oct.u64_cast];rfl
      have HX:=Lib.hid hx0
      have hsn:=Oct.be_snoc (Oct.u64 n) k j (by omega)
      have HS:=Lib.hid hsn
      have hsd:s.data.toList.length=s.size:=by simp
      have hln:(s.data.toList++(Oct.be (Oct.u64 n) k).take (k - (j+1))).length+1≤140737488355328:=by
        rw [List.length_append,List.length_take,Oct.be_length,hsd];omega
      have HL:=Lib.hid hln
      clear hx0 hsn hsd hln
      go_wp2_with (at_builtin;refine wpList_buf_append _ rfl _ _ 60 rfl w.heap.size 5 i0 (.int .u8 0) Tryz.underlying60 hi hz0 hz1 hz2 rfl _ _ rfl (hbuf.alloc _) ⟨wr.heap.size,0,none⟩ 1 (UInt8.ofNat (Oct.u64 n / 256 ^ j)) rfl (by rw [← HX.out];simp) HL.out (by simp;omega) ?_;intro v' w1 hbuf' hb')
      rw [List.append_assoc,HS.out] at hbuf'
      go_roundw
      case rel=>exact ⟨j,by omega,rfl,hbuf',by have:=hbl.alloc (Nat.le_of_lt_succ (Nat.lt_succ_of_le hbs)) (.cells #[.int .u8 (IntKind.u64.wrap n / 2 ^ (8 * j) % 256)] 5);exact this.trans hb'⟩
      case measure=>simp [intOf] <;> omega
theorem oct32_putL (l:List UInt8) (n k:Int) (hk0:0≤k) (hk:k≤8) (hl:l.length≤1099511627776) (w:World) :
    Calls Tryz.prog 184 #[.string ⟨l.toArray⟩,.int .u32 n,.int .i64 k] w fun e w'=>e = .returned (.string ⟨(l++Oct.be (Oct.u64 n) k.toNat).toArray⟩)∧Below w.heap.size w w':=by
  obtain ⟨m,rfl⟩:=Int.eq_ofNat_of_zero_le hk0
  have:=oct32_put ⟨l.toArray⟩ n m (by omega) (by show l.toArray.size≤_;simpa using hl) w
  simpa using this
theorem oct32_of (s:ByteArray) (hs:s.size≤maxLen) (w:World):Calls Tryz.prog 189 #[.string s] w fun e w'=>e = .returned (.int .u32 ((Oct.val s.data.toList % 4294967296:Nat):Int))∧w=w':=by
  unfold maxLen at hs
  go_enter Tryz.func189,Tryz.ntmps189
  go_wp2
  go_loop [3,7] (fun n i=>∃ k:Nat,k≤s.size∧i = .int .i64 k∧n = .int .u64 (((Oct.val (s.data.toList.take k)) % 18446744073709551616:Nat):Int)) (fun _ i=>s.size - (intOf i).toNat)
  case atStart=>exact ⟨0,Nat.zero_le _,rfl,rfl⟩
  case round =>
    obtain ⟨k,hk,rfl,rfl⟩:=hrel
    by_cases hlt:k < s.size
    · have hv:=octv_take s.data.toList k (by simpa using hlt)
      have HV:=Lib.hid hv
      clear hv
      generalize Oct.val (s.data.toList.take k)=v at *
      go_wp2
      go_round
      case rel =>
        refine ⟨k+1,by omega,by go_num,?_⟩
        rw [HV.out]
        have e:s.data.toList[k]'(by simpa using hlt)=s[k]:=by simp;rfl
        rw [e]
        have hb:s[k].toNat < 256:=s[k].toNat_lt
        generalize s[k].toNat=b at *
        congr 1
        have:=Oct.or_low (v % 18446744073709551616) b hb
        rw [show (((v % 18446744073709551616:Nat)):Int)=(v:Int) % 18446744073709551616 by omega] at this
        rw [this]
        omega
      case measure=>simp [intOf];omega
    · go_wp2
      go_ret
      exact ⟨ret_i (by rw [List.take_of_length_le (by simp;omega)]),rfl⟩
end Go.Proofs.YthacfgaacleaeaaGreatDoor
namespace Go.Proofs.YthacfgaacleaeaaGreatDoor
open Go.IntKind (i64 u32)
open Go.RowKit Sym
theorem follows:Tryz.prog.follows .mixedOrders=true:=by kernel_rfl
theorem of_same {P:Program} {f:FuncId} {xs:Array Value} {w:World} {v:Value} (h:Calls P f xs w fun e w'=>e = .returned v∧w=w'):Calls P f xs w fun e w'=>e = .returned v∧Below w.heap.size w w' :=
  h.mono fun _ _ ⟨he,hw⟩=>⟨he,by subst hw;exact .refl _ _⟩
theorem ba_size (s:ByteArray):s.data.toList.length=s.size:=by simp
theorem oct_put_tab (s:ByteArray) (n k:Int) (h:0≤k∧k≤8∧s.size≤1099511627776) (w:World):Calls Tryz.prog 52 #[.string s,.int .i64 n,.int .i64 k] w fun e w'=>e = .returned (.string (Oct.put s n k))∧Below w.heap.size w w':=by
  have:=oct_putL s.data.toList n k h.1 h.2.1 (by rw [ba_size];exact h.2.2) w
  simpa [Oct.put] using this
theorem oct32_put_tab (s:ByteArray) (n k:Int) (h:0≤k∧k≤8∧s.size≤1099511627776) (w:World):Calls Tryz.prog 184 #[.string s,.int .u32 n,.int .i64 k] w fun e w'=>e = .returned (.string (Oct.put s n k))∧Below w.heap.size w w':=by
  have:=oct32_putL s.data.toList n k h.1 h.2.1 (by rw [ba_size];exact h.2.2) w
  simpa [Oct.put] using this
theorem ref01_put_tab (s:ByteArray) (n k:Int) (h:0≤n∧n < 18446744073709551616∧0≤k∧k≤8∧s.size≤1099511627776) (w:World):Calls Tryz.prog 126 #[.string s,.int .u64 n,.int .i64 k] w fun e w'=>e = .returned (.string (Oct.put s n k))∧Below w.heap.size w w':=by
  have:=ref01_putL s.data.toList n k h.1 h.2.1 h.2.2.1 h.2.2.2.1 (by rw [ba_size];exact h.2.2.2.2) w
  have e:Oct.u64 n=n.toNat:=by unfold Oct.u64;rw [Int.emod_eq_of_lt h.1 h.2.1]
  simpa [Oct.put,e] using this
def tOctPut:List Value→Option (List Prop×Value) | [.string s,.int .i64 n,.int .i64 k]=>some ([0≤k∧k≤8∧s.size≤1099511627776],.string (Oct.put s n k)) | _=>none
def tOct32Put:List Value→Option (List Prop×Value) | [.string s,.int .u32 n,.int .i64 k]=>some ([0≤k∧k≤8∧s.size≤1099511627776],.string (Oct.put s n k)) | _=>none
def tRef01Put:List Value→Option (List Prop×Value) | [.string s,.int .u64 n,.int .i64 k]=>some ([0≤n∧n < 18446744073709551616∧0≤k∧k≤8∧s.size≤1099511627776],.string (Oct.put s n k)) | _=>none
def valU (s:ByteArray):Int:=((Oct.val s.data.toList % 18446744073709551616:Nat):Int)
def tRef01Of:List Value→Option (List Prop×Value) | [.string s]=>some ([s.size≤maxLen],.int .u64 (valU s)) | _=>none
def tOctOf:List Value→Option (List Prop×Value) | [.string s]=>some ([s.size≤maxLen],.int .i64 (wrap64 (valU s))) | _=>none
def tOct32Of:List Value→Option (List Prop×Value) | [.string s]=>some ([s.size≤maxLen],.int .u32 ((Oct.val s.data.toList % 4294967296:Nat):Int)) | _=>none
def SOct  : Tab:=addS 52 tOctPut <| addS 126 tRef01Put <| addS 97 tRef01Of <| addS 139 tOctOf <| addS 189 tOct32Of <| addS 184 tOct32Put <| noS
theorem SOct_ok:TabOk Tryz.prog (SOct):=by
  refine addS_ok (addS_ok (addS_ok (addS_ok (addS_ok (addS_ok (noS_ok) (by kernel_rfl) ?_) (by kernel_rfl) ?_) (by kernel_rfl) ?_) (by kernel_rfl) ?_) (by kernel_rfl) ?_) (by kernel_rfl) ?_
  · (intro xs p v h hp w;unfold tOct32Put at h;(split at h) <;> first | (cases h;done) | (simp only [Option.some.injEq,Prod.mk.injEq] at h;obtain ⟨rfl,rfl⟩:=h;exact oct32_put_tab _ _ _ (hp _ (List.mem_cons_self ..)) w))
  · (intro xs p v h hp w;unfold tOct32Of at h;(split at h) <;> first | (cases h;done) | (simp only [Option.some.injEq,Prod.mk.injEq] at h;obtain ⟨rfl,rfl⟩:=h;exact of_same (oct32_of _ (hp _ (List.mem_cons_self ..)) w)))
  · (intro xs p v h hp w;unfold tOctOf at h;(split at h) <;> first | (cases h;done) | (simp only [Option.some.injEq,Prod.mk.injEq] at h;obtain ⟨rfl,rfl⟩:=h;exact of_same (oct_of _ (hp _ (List.mem_cons_self ..)) w)))
  · (intro xs p v h hp w;unfold tRef01Of at h;(split at h) <;> first | (cases h;done) | (simp only [Option.some.injEq,Prod.mk.injEq] at h;obtain ⟨rfl,rfl⟩:=h;exact of_same (ref01_of _ (hp _ (List.mem_cons_self ..)) w)))
  · (intro xs p v h hp w;unfold tRef01Put at h;(split at h) <;> first | (cases h;done) | (simp only [Option.some.injEq,Prod.mk.injEq] at h;obtain ⟨rfl,rfl⟩:=h;exact ref01_put_tab _ _ _ (hp _ (List.mem_cons_self ..)) w))
  · (intro xs p v h hp w;unfold tOctPut at h;(split at h) <;> first | (cases h;done) | (simp only [Option.some.injEq,Prod.mk.injEq] at h;obtain ⟨rfl,rfl⟩:=h;exact oct_put_tab _ _ _ (hp _ (List.mem_cons_self ..)) w))
theorem w64 (z:Int) (h0 : -9223372036854775808≤z) (h1:z < 9223372036854775808):i64.wrap z=z:=IntWalk.i64_in _ (by omega)
theorem noloops {P:Program} {N:Nat} {c:Code} (h:loopsOf c=[]) {L:Nat→St→Option (T (Ex×St))}:∀ id b,(id,b) ∈ loopsOf c→∀ st t,L id st=some t→RunOk P N (.block id (.loop b)) st t:=by
  intro id b hm;rw [h] at hm;cases hm
theorem u64_range (z:Int):0≤IntKind.u64.wrap z∧IntKind.u64.wrap z < 18446744073709551616:=by simp only [IntKind.wrap,IntKind.bits,IntKind.signed];simp;omega
theorem u64_wrap (z:Int):Oct.u64 (IntKind.u64.wrap z)=Oct.u64 z:=by unfold Oct.u64;simp only [IntKind.wrap,IntKind.bits,IntKind.signed];simp
theorem valU_lt (s:ByteArray) (n:Nat) (h:s.size≤n) (hn:n≤7):0≤valU s∧valU s < 72057594037927936:=by
  unfold valU
  have h1:=Oct.val_lt s.data.toList
  have h2:s.data.toList.length≤7:=by rw [show s.data.toList.length=s.size by simp];omega
  have h3:(256:Nat) ^ s.data.toList.length≤256 ^ 7:=Nat.pow_le_pow_right (by omega) h2
  have h4:(256:Nat) ^ 7=72057594037927936:=by decide
  omega
theorem wrap_valU (s:ByteArray) (n:Nat) (h:s.size≤n) (hn:n≤7):wrap64 (valU s)=valU s∧i64.wrap (valU s)=valU s:=by
  have:=valU_lt s n h hn
  refine ⟨?_,w64 _ (by omega) (by omega)⟩
  unfold wrap64;omega
theorem put_u64 (s:ByteArray) (z k:Int):Oct.put s (IntKind.u64.wrap z) k=Oct.put s z k:=by unfold Oct.put;rw [u64_wrap]
theorem put_size (s:ByteArray) (z:Int) (k:Nat):(Oct.put s z (k:Nat)).size=s.size+k:=by rw [Oct.put_size];omega
namespace Sha
def w32 (z:Int):Int:=u32.wrap z
def rorN (x:Int) (n:Nat):Int:=u32.wrap (((x.fdiv ((2 ^ n:Nat):Int) % 4294967296).toNat ||| (u32.wrap (x * ((2 ^ (32 - n):Nat):Int)) % 4294967296).toNat:Nat):Int)
def xor (a b:Int):Int:=u32.wrap (((a % 4294967296).toNat ^^^ (b % 4294967296).toNat:Nat):Int)
def and (a b:Int):Int:=u32.wrap (((a % 4294967296).toNat &&& (b % 4294967296).toNat:Nat):Int)
def not (a:Int):Int:=xor 4294967295 a
def low (x:Int):Int:=xor (xor (rorN x 7) (rorN x 18)) (x.fdiv 8)
def high (x:Int):Int:=xor (xor (rorN x 17) (rorN x 19)) (x.fdiv 1024)
def nxt (w16 w15 w7 w2:Int):Int:=w32 (w32 (w32 (w16+low w15)+w7)+high w2)
def schedL (m:Nat→Int):Nat→List Int
  | 0=>[]
  | i+1=>schedL m i++[if i < 16 then m i else nxt (nth (schedL m i) (i - 16)) (nth (schedL m i) (i - 15)) (nth (schedL m i) (i - 7)) (nth (schedL m i) (i - 2))]
theorem schedL_length (m:Nat→Int):∀ i,(schedL m i).length=i
  | 0=>rfl
  | i+1=>by simp [schedL,schedL_length m i]
theorem schedL_nth (m:Nat→Int):∀ (i j:Nat),j < i→nth (schedL m i) j=nth (schedL m (j+1)) j
  | 0,_,h=>by omega
  | i + 1,j,h=>by
    by_cases e:j=i
    · subst e;rfl
    · rw [← schedL_nth m i j (by omega)]
      unfold nth
      show (schedL m i++_).getD j 0=_
      rw [List.getD_eq_getElem?_getD,List.getD_eq_getElem?_getD,List.getElem?_append_left (by rw [schedL_length];omega)]
theorem schedL_last (m:Nat→Int) (i:Nat):nth (schedL m (i+1)) i=if i < 16 then m i else nxt (nth (schedL m i) (i - 16)) (nth (schedL m i) (i - 15)) (nth (schedL m i) (i - 7)) (nth (schedL m i) (i - 2)):=by
  unfold nth
  show (schedL m i++_).getD i 0=_
  rw [List.getD_eq_getElem?_getD,List.getElem?_append_right (by rw [schedL_length];omega),schedL_length]
  simp [nth]
theorem schedL_congr {m m':Nat→Int} (h:∀ i,i < 16→m i=m' i):∀ i,schedL m i=schedL m' i
  | 0=>rfl
  | i+1=>by
    simp only [schedL,schedL_congr h i]
    by_cases e:i < 16
    · simp [e,h i e]
    · simp [e]
structure H8 where
  a:Int
  b:Int
  c:Int
  d:Int
  e:Int
  f:Int
  g:Int
  h:Int
deriving DecidableEq
def Kt:List Int:=[1116352408,1899447441,3049323471,3921009573,961987163,1508970993,2453635748,2870763221,3624381080,310598401,607225278,1426881987,1925078388,2162078206,2614888103,3248222580,3835390401,4022224774,264347078,604807628,770255983,1249150122,1555081692,1996064986,2554220882,2821834349,2952996808,3210313671,3336571891,3584528711,113926993,338241895,666307205,773529912,1294757372,1396182291,1695183700,1986661051,2177026350,2456956037,2730485921,2820302411,3259730800,3345764771,3516065817,3600352804,4094571909,275423344,430227734,506948616,659060556,883997877,958139571,1322822218,1537002063,1747873779,1955562222,2024104815,2227730452,2361852424,2428436474,2756734187,3204031479,3329325298]
def H0:H8:=⟨1779033703,3144134277,1013904242,2773480762,1359893119,2600822924,528734635,1541459225⟩
def one (v:H8) (k w:Int):Int:=w32 (w32 (w32 (w32 (v.h+xor (xor (rorN v.e 6) (rorN v.e 11)) (rorN v.e 25))+xor (and v.e v.f) (and (not v.e) v.g))+k)+w)
def two (v:H8):Int:=w32 (xor (xor (rorN v.a 2) (rorN v.a 13)) (rorN v.a 22)+xor (xor (and v.a v.b) (and v.a v.c)) (and v.b v.c))
def rnd (v:H8) (k w:Int):H8:=⟨w32 (one v k w+two v),v.a,v.b,v.c,w32 (v.d+one v k w),v.e,v.f,v.g⟩
def rnds (ws:List Int):Nat→H8→H8
  | 0,v=>v
  | i+1,v=>rnd (rnds ws i v) (nth Kt i) (nth ws i)
def addH (v h:H8):H8:=⟨w32 (v.a+h.a),w32 (v.b+h.b),w32 (v.c+h.c),w32 (v.d+h.d),w32 (v.e+h.e),w32 (v.f+h.f),w32 (v.g+h.g),w32 (v.h+h.h)⟩
def word (l:List UInt8) (i:Nat):Int:=((Oct.val ((l.drop (4 * i)).take 4):Nat):Int)
def sched (l:List UInt8):List Int:=schedL (word l) 64
def blockH (h:H8) (l:List UInt8):H8:=addH (rnds (sched l) 64 h) h
def foldB:Nat→H8→List UInt8→H8
  | 0,h,_=>h
  | n+1,h,l=>foldB n (blockH h (l.take 64)) (l.drop 64)
def txt (h:H8):List UInt8:=Oct.be (Oct.u64 h.a) 4++Oct.be (Oct.u64 h.b) 4++Oct.be (Oct.u64 h.c) 4++Oct.be (Oct.u64 h.d) 4++Oct.be (Oct.u64 h.e) 4++Oct.be (Oct.u64 h.f) 4++Oct.be (Oct.u64 h.g) 4++Oct.be (Oct.u64 h.h) 4
def foldA (h:H8) (l:List UInt8):H8:=foldB (l.length / 64) h l
def restA (l:List UInt8):List UInt8:=l.drop (64 * (l.length / 64))
def tail (r n:Nat):List UInt8:=128 :: (List.replicate ((119 - r % 64) % 64) 0++Oct.be (8 * n % 18446744073709551616) 8)
def shaL (s:List UInt8):List UInt8:=txt (foldA H0 (s++tail s.length s.length))
theorem foldB_add (m n:Nat):∀ (h:H8) (l:List UInt8),foldB (m+n) h l=foldB n (foldB m h l) (l.drop (64 * m)):=by
  induction m with
  | zero=>intro h l;simp [foldB]
  | succ m ih =>
    intro h l
    rw [show m+1+n=(m+n)+1 by omega]
    simp only [foldB]
    rw [ih]
    congr 1
    rw [List.drop_drop]
    congr 1;omega
theorem foldB_front (n:Nat):∀ (h:H8) (l r:List UInt8),64 * n≤l.length→foldB n h (l++r)=foldB n h l:=by
  induction n with
  | zero=>intros;rfl
  | succ n ih =>
    intro h l r hl
    simp only [foldB]
    rw [List.take_append_of_le_length (by omega),List.drop_append_of_le_length (by omega),ih _ _ _ (by rw [List.length_drop];omega)]
theorem restA_length (l:List UInt8):(restA l).length=l.length % 64:=by
  unfold restA;rw [List.length_drop];omega
theorem foldA_append (h:H8) (l r:List UInt8):foldA (foldA h l) (restA l++r)=foldA h (l++r):=by
  unfold foldA
  have e:(l++r).length / 64=l.length / 64+(restA l++r).length / 64:=by
    rw [List.length_append,List.length_append,restA_length];omega
  rw [e,foldB_add,foldB_front (l.length / 64) h l r (by omega),List.drop_append_of_le_length (by omega)]
  rfl
theorem restA_append (l r:List UInt8):restA (restA l++r)=restA (l++r):=by
  have e:(l++r).length / 64=l.length / 64+(restA l++r).length / 64:=by
    rw [List.length_append,List.length_append,restA_length];omega
  have:restA l++r=(l++r).drop (64 * (l.length / 64)):=by
    rw [List.drop_append_of_le_length (by omega)];rfl
  unfold restA at *
  rw [this] at e ⊢
  rw [List.drop_drop]
  congr 1;omega
theorem sum_pieces (s:List UInt8):txt (foldA (foldA H0 s) (restA s++tail (restA s).length s.length))=shaL s:=by
  rw [foldA_append]
  unfold shaL tail
  rw [restA_length,Nat.mod_mod]
theorem txt_length (h:H8):(txt h).length=32:=by simp [txt,Oct.be_length]
theorem shaL_length (s:List UInt8):(shaL s).length=32:=txt_length _
end Sha
def ba (l:List UInt8):ByteArray:=⟨l.toArray⟩
theorem ba_data (l:List UInt8):(ba l).data.toList=l:=rfl
theorem ba_len (l:List UInt8):(ba l).size=l.length:=by show l.toArray.size=_;simp
theorem ba_of (s:ByteArray):ba s.data.toList=s:=by cases s;rfl
theorem ba_append (a b:List UInt8):ba a++ba b=ba (a++b):=by
  apply ByteArray.ext
  rw [ByteArray.data_append]
  simp [ba]
theorem ba_extract (l:List UInt8) (a b:Nat):(ba l).extract a b=ba ((l.drop a).take (b - a)):=by
  apply ByteArray.ext
  apply Array.toList_inj.1
  rw [ByteArray.data_extract,Array.toList_extract]
  simp [ba,List.extract_eq_take_drop]
def shaOf (s:ByteArray):ByteArray:=⟨(Sha.shaL s.data.toList).toArray⟩
theorem shaOf_size (s:ByteArray):(shaOf s).size=32:=by
  show (Sha.shaL s.data.toList).toArray.size=32
  simp [Sha.shaL_length]
end Go.Proofs.YthacfgaacleaeaaGreatDoor
namespace Go.Proofs.YthacfgaacleaeaaGreatDoor
open Go.IntKind (i64 u32)
open Go.RowKit Sym
namespace Mac
def turn (n:UInt8) (l:List UInt8):List UInt8:=l.map (· ^^^ n)
def key64 (key:List UInt8):List UInt8 :=
  let k:=if 64 < key.length then Sha.shaL key else key
  k++List.replicate (64 - k.length) 0
def macL (key all:List UInt8):List UInt8:=Sha.shaL (turn 92 (key64 key)++Sha.shaL (turn 54 (key64 key)++all))
theorem macL_length (key all:List UInt8):(macL key all).length=32:=Sha.shaL_length _
def want:List UInt8:=[119,104,97,116,32,100,111,32,121,97,32,119,97,110,116,32,102,111,114,32,110,111,116,104,105,110,103,63]
end Mac
def macOf (key all:ByteArray):ByteArray:=⟨(Mac.macL key.data.toList all.data.toList).toArray⟩
theorem macOf_size (key all:ByteArray):(macOf key all).size=32:=by
  show (Mac.macL key.data.toList all.data.toList).toArray.size=32
  simp [Mac.macL_length]
end Go.Proofs.YthacfgaacleaeaaGreatDoor
namespace Go.Proofs.YthacfgaacleaeaaGreatDoor
open Go.IntKind (i64 u32)
open Go.RowKit Sym
def firstOf (p:Nat→Bool):Nat→Nat→Nat
  | 0,i=>i
  | k+1,i=>bif p i then i else firstOf p k (i+1)
theorem firstOf_spec (p:Nat→Bool):∀ k i,i≤firstOf p k i∧firstOf p k i≤i+k∧(∀ j,i≤j→j < firstOf p k i→p j=false)∧(firstOf p k i < i+k→p (firstOf p k i)=true)
  | 0,i=>⟨Nat.le_refl _,Nat.le_refl _,fun j h1 h2=>by simp only [firstOf] at h2;omega,fun h=>by simp only [firstOf] at h;omega⟩
  | k + 1,i=>by
    cases hb:p i
    · have e:firstOf p (k+1) i=firstOf p k (i+1):=by simp only [firstOf,hb,cond_false]
      obtain ⟨h1,h2,h3,h4⟩:=firstOf_spec p k (i+1)
      rw [e]
      refine ⟨by omega,by omega,fun j h5 h6=>?_,fun h=>h4 (by omega)⟩
      by_cases ej:j=i
      · subst ej;exact hb
      · exact h3 j (by omega) h6
    · have e:firstOf p (k+1) i=i:=by simp only [firstOf,hb,cond_true]
      rw [e]
      exact ⟨Nat.le_refl _,by omega,fun j h5 h6=>by omega,fun _=>hb⟩
def catR (g:Nat→ByteArray):Nat→ByteArray
  | 0=>⟨⟨[]⟩⟩
  | n+1=>catR g n++g n
theorem catR_mono (g:Nat→ByteArray) {i n:Nat} (h:i≤n):(catR g i).size≤(catR g n).size:=by
  induction n with
  | zero => obtain rfl:i=0:=by omega
            exact Nat.le_refl _
  | succ n ih =>
    by_cases e:i=n+1
    · subst e;exact Nat.le_refl _
    · have:=ih (by omega)
      show _≤(catR g n++g n).size
      rw [ByteArray.size_append];omega
end Go.Proofs.YthacfgaacleaeaaGreatDoor
namespace Go.Proofs.YthacfgaacleaeaaGreatDoor
open Go.IntKind (i64 u32)
open Go.RowKit Sym
theorem foldl_be (k:Nat):∀ (a u:Nat),(Oct.be u k).foldl (fun n b=>256 * n+b.toNat) a=a * 256 ^ k+u % 256 ^ k:=by
  induction k with
  | zero=>intro a u;simp [Oct.be,Nat.mod_one]
  | succ k ih =>
    intro a u
    show (Oct.be u k).foldl _ (256 * a+(UInt8.ofNat (u / 256 ^ k)).toNat)=_
    have e:(UInt8.ofNat (u / 256 ^ k)).toNat=u / 256 ^ k % 256:=by rw [UInt8.toNat_ofNat']
    have e2:u % 256 ^ (k+1)=u % 256 ^ k+256 ^ k * (u / 256 ^ k % 256):=by rw [Nat.pow_succ,Nat.mod_mul]
    have e3:256 * a * 256 ^ k=a * 256 ^ (k+1):=by rw [Nat.pow_succ,Nat.mul_comm 256 a,Nat.mul_assoc,Nat.mul_comm 256]
    rw [ih,e,e2,Nat.add_mul,e3,Nat.mul_comm (u / 256 ^ k % 256)]
    omega
theorem val_be (u k:Nat):Oct.val (Oct.be u k)=u % 256 ^ k:=by
  unfold Oct.val
  rw [foldl_be,Nat.zero_mul,Nat.zero_add]
end Go.Proofs.YthacfgaacleaeaaGreatDoor
namespace Go.Proofs.YthacfgaacleaeaaGreatDoor.Sym
open Go.IntKind (i64 u32)
open Go.RowKit
def ordB (n0:Nat) (js:List Nat) (i k:Nat) (o:Option Blk):Blk:=match o with
  | some b=>bif isAt i (ordN n0 js k) then locB (ordN n0 js) (openVec b) else .gone
  | none=>.gone
def ordH (n0:Nat) (js:List Nat) (H:List Blk):List Blk :=
  (List.range n0).map (fun k=>ordB n0 js k k H[k]?)++js.zipIdx.map fun p=>ordB n0 js (n0+p.2) p.1 H[p.1]?
def ordS (ρ:Nat→Option Nat):Option SV→Option SV
  | some s=>openO (s.mapL ρ)
  | none=>none
def St.ord1 (n0:Nat) (keep:List Nat) (js:List Nat) (st:St):St :=
  ⟨keep.map fun t=>(t,ordS (ordN n0 js) (look st.fr t)),(ordH n0 js st.H).map openBlk⟩
theorem ord1_ok {N n0:Nat} {w0:World} {bs:List Nat} {st:St} {B:List Value} {a:Act} {w:World} (hsl:Slots N st.fr B a) (hm:Mem w0 bs st.H B w) (hn:n0≤B.length) (keep js:List Nat) (hjs:∀ j ∈ js,j < st.H.length) :
    ∃ B',B.take n0 <+: B'∧Slots N (st.ord1 n0 keep js).fr B' a∧Mem w0 bs (st.ord1 n0 keep js).H B' w:=by
  have hlt:(B.take n0).length=n0:=by simp;omega
  refine ⟨B.take n0++js.map (fun j=>B.getD j undef),List.prefix_append _ _,?_,openBlk_mem ?_⟩
  all_goals
    have hρ:∀ (k i:Nat),ordN n0 js k=some i→(B.take n0++js.map (fun j=>B.getD j undef))[i]?=B[k]?:=by
      intro k i e
      unfold ordN at e
      split at e
      · rename_i i' hi
        simp only [Option.some.injEq] at e
        subst e
        obtain ⟨-,h2⟩:=posOf_get hi
        rw [Nat.sub_zero] at h2
        have hk:=hjs k (List.mem_of_getElem? h2)
        rw [← hm.sat.len] at hk
        rw [List.getElem?_append_right (by omega),hlt,Nat.add_sub_cancel_left,List.getElem?_map,h2]
        simp [List.getD_eq_getElem?_getD,List.getElem?_eq_getElem hk]
      · cases hb:Nat.blt k n0
        · rw [hb] at e;cases e
        · rw [hb,cond_true,Option.some.injEq] at e
          subst e
          rw [Nat.blt_eq] at hb
          rw [List.getElem?_append_left (by omega),List.getElem?_take,if_pos hb]
  · refine ⟨hsl.size,hsl.defers,fun t s e=>?_⟩
    have e:=look_only e
    unfold ordS at e
    split at e
    · rename_i s0 hs0
      cases hc:SV.mapL (ordN n0 js) s0 with
      | none=>rw [hc] at e;cases e
      | some s1 =>
        rw [hc] at e
        simp only [openO,Option.some.injEq] at e
        subst e
        rw [openS_to,SV.mapL_to hρ hc]
        exact hsl.slot t s0 hs0
    · cases e
  · have hlen:(ordH n0 js st.H).length=(B.take n0++js.map (fun j=>B.getD j undef)).length:=by
      unfold ordH
      rw [List.length_append,List.length_append,hlt]
      simp
    have get : ∀ {i:Nat} {x:Blk},(ordH n0 js st.H)[i]?=some x→x = .gone ∨ ∃ k y,ordN n0 js k=some i∧st.H[k]?=some y∧x=locB (ordN n0 js) (openVec y):=by
      intro i x hi
      unfold ordH at hi
      have one:∀ {k:Nat},x=ordB n0 js i k st.H[k]?→x = .gone ∨ ∃ k y,ordN n0 js k=some i∧st.H[k]?=some y∧x=locB (ordN n0 js) (openVec y):=by
        intro k e
        unfold ordB at e
        split at e
        · rename_i b hb
          cases hc:isAt i (ordN n0 js k)
          · rw [hc] at e;exact .inl e
          · rw [hc,cond_true] at e
            exact .inr ⟨k,b,isAt_iff.1 hc,hb,e⟩
        · exact .inl e
      by_cases hlo:i < n0
      · rw [List.getElem?_append_left (by simpa using hlo),List.getElem?_map,Option.map_eq_some_iff] at hi
        obtain ⟨k,hk,rfl⟩:=hi
        rw [List.getElem?_range hlo,Option.some.injEq] at hk
        subst hk
        exact one rfl
      · rw [List.getElem?_append_right (by simpa using hlo),List.getElem?_map,Option.map_eq_some_iff] at hi
        obtain ⟨p,hp,rfl⟩:=hi
        simp only [List.length_map,List.length_range] at hp
        rw [List.getElem?_zipIdx,Option.map_eq_some_iff] at hp
        obtain ⟨j,hj,rfl⟩:=hp
        refine one (k:=j) ?_
        simp only [Nat.zero_add]
        rw [show n0+(i - n0)=i by omega]
    have ex:∀ i b,ExBlk (ordH n0 js st.H) (B.take n0++js.map (fun j=>B.getD j undef)) i b→∃ k,ordN n0 js k=some i∧ExBlk st.H B k b:=by
      rintro i b ⟨x,u,h1,h2,h3,h4⟩
      rcases get h1 with rfl | ⟨k,y,g1,g2,rfl⟩
      · cases h2
      · exact ⟨k,g1,y,u,g2,by rw [← openVec_excl];exact locB_excl h2,by rw [← hρ k i g1];exact h3,h4⟩
    have rd:∀ i b,RdBlk (ordH n0 js st.H) (B.take n0++js.map (fun j=>B.getD j undef)) i b→∃ k,ordN n0 js k=some i∧RdBlk st.H B k b:=by
      rintro i b ⟨n,sz,f,u,h1,h2,h3,h4,h5⟩
      rcases get h1 with e | ⟨k,y,g1,g2,e⟩
      · cases e
      · exact ⟨k,g1,n,sz,f,u,by rw [g2,openVec_row (locB_row e.symm)],h2,h3,by rw [← hρ k i g1];exact h4,h5⟩
    refine ⟨⟨hlen.symm,fun i x u hi hu=>?_,fun i j b h1 h2=>?_,fun i j b h1 h2=>?_⟩,hm.keeps,fun i b h1=>?_⟩
    · rcases get hi with rfl | ⟨k,y,g1,g2,rfl⟩
      · trivial
      · rw [hρ k i g1] at hu
        exact locB_sat hρ (openVec_sat (hm.sat.blk k y u g2 hu))
    · obtain ⟨k,k1,k2⟩:=ex _ _ h1
      obtain ⟨l,l1,l2⟩:=ex _ _ h2
      have:=hm.sat.sep _ _ _ k2 l2
      subst this
      rw [k1,Option.some.injEq] at l1
      exact l1
    · obtain ⟨k,k1,k2⟩:=ex _ _ h1
      obtain ⟨l,l1,l2⟩:=rd _ _ h2
      exact hm.sat.far _ _ _ k2 l2
    · obtain ⟨k,k1,k2⟩:=ex _ _ h1
      exact hm.good _ _ k2
abbrev Mw:=List (Spot×TypeId×Nat)
def spotAt (st:St):Spot→Option SV
  | .slot t _=>look st.fr t
  | .cell k i _=>match st.H[k]? with
    | some (.own cells)=>cells[i]?
    | _=>none
def openNil (st:St) (m:Spot×TypeId×Nat):St:=match m.1 with
  | .slot t _=>bif isNilS (look st.fr t) then ⟨(t,some (.ref st.H.length)) :: st.fr,st.H++[Blk.vec true m.2.1 m.2.2 0 []]⟩ else st
  | .cell k i _=>match st.H[k]? with
    | some (.own cells)=>bif isNilS cells[i]? then ⟨st.fr,(st.H++[Blk.vec true m.2.1 m.2.2 0 []]).set k (.own (cells.set i (.ref st.H.length)))⟩ else st
    | _=>st
theorem nil_to {o:Option SV} (e:isNilS o=true):∃ s,o=some s∧∀ B,s.to B=some (.slice none 0 0):=by
  unfold isNilS at e
  split at e
  · exact ⟨_,rfl,fun _=>rfl⟩
  · exact ⟨_,rfl,fun _=>rfl⟩
  · cases e
theorem openNil_ok {N:Nat} {w0:World} {bs:List Nat} {st:St} {B:List Value} {a:Act} {w:World} (hsl:Slots N st.fr B a) (hm:Mem w0 bs st.H B w) (m:Spot×TypeId×Nat) :
    ∃ B',B <+: B'∧Slots N (openNil st m).fr B' a∧Mem w0 bs (openNil st m).H B' w:=by
  have stay:∃ B',B <+: B'∧Slots N st.fr B' a∧Mem w0 bs st.H B' w:=⟨B,List.prefix_refl _,hsl,hm⟩
  have hsat:BlkSat (B++[Value.slice none 0 0]) w (.slice none 0 0) (.vec true m.2.1 m.2.2 0 []):=by simp [BlkSat,VecSat,World.ownsRow]
  have hadd:=hm.add (grown_self w none) (y:=.vec true m.2.1 m.2.2 0 []) (u:=.slice none 0 0) (fun b hb=>by cases hb) hsat
  have hpre:B <+: B++[Value.slice none 0 0]:=List.prefix_append _ _
  have hlast:(SV.ref st.H.length).to (B++[Value.slice none 0 0])=some (.slice none 0 0):=ref_to hm.sat.len _
  unfold openNil
  split
  · rename_i t _ _
    cases hb:isNilS (look st.fr t)
    · rw [cond_false];exact stay
    · rw [cond_true]
      refine ⟨_,hpre,⟨hsl.size,hsl.defers,fun u s e=>?_⟩,hadd⟩
      simp only [look] at e
      cases hb':Nat.beq t u
      · rw [hb',cond_false] at e;exact SV.to_mono hpre (hsl.slot u s e)
      · rw [hb',cond_true,Option.some.injEq] at e
        have:=Nat.eq_of_beq_eq_true hb'
        subst this
        subst e
        rw [nil_val hsl hb]
        exact hlast
  · rename_i k i _ _
    split
    · rename_i cells hk
      cases hb:isNilS cells[i]?
      · rw [cond_false];exact stay
      · rw [cond_true]
        obtain ⟨s,hs,hnil⟩:=nil_to hb
        have hk':(st.H++[Blk.vec true m.2.1 m.2.2 0 []])[k]?=some (.own cells):=by
          rw [List.getElem?_append_left (List.getElem?_eq_some_iff.1 hk).1];exact hk
        obtain ⟨u,hu⟩:=hadd.sat.getB hk'
        obtain ⟨b,vs,rfl,h2,h3⟩:=hadd.sat.blk k _ u hk' hu
        refine ⟨_,hpre,hsl.mono hpre,hadd.upd hk' rfl hu (grown_self w _) rfl ⟨b,vs,rfl,?_,h3⟩⟩
        rw [tos_setN cells i s hs (by rw [hlast,hnil])]
        exact h2
    · exact stay
theorem openNils_ok {N:Nat} {w0:World} {bs:List Nat} {a:Act} {w:World}:∀ (mv:Mw) {st:St} {B:List Value},Slots N st.fr B a→Mem w0 bs st.H B w→∃ B',B <+: B'∧Slots N (mv.foldl openNil st).fr B' a∧Mem w0 bs (mv.foldl openNil st).H B' w
  | [],st,B,h,hm=>⟨B,List.prefix_refl _,h,hm⟩
  | m :: mv,st,B,h,hm=>by
    obtain ⟨B1,p1,h1,m1⟩:=openNil_ok h hm m
    obtain ⟨B2,p2,h2,m2⟩:=openNils_ok mv h1 m1
    exact ⟨B2,p1.trans p2,h2,m2⟩
def refO:Option SV→List Nat
  | some (.ref k)=>[k]
  | some (.ptr k _)=>[k]
  | _=>[]
def ordJs (n0:Nat) (keep:List Nat) (mv:Mw) (st:St):List Nat :=
  let sp:=mv.flatMap fun m=>refO (spotAt st m.1)
  (reach (fun k=>st.H[k]?) 300 (sp++keep.flatMap (fun t=>letsO (look st.fr t))++List.range n0) []).filter fun k=>(Nat.ble n0 k || sp.any (Nat.beq k)) && Nat.blt k st.H.length
def St.ord (n0:Nat) (keep:List Nat) (mv:Mw) (ks:List Nat) (st:St):St :=
  let s:=(mv.foldl openNil st).ord1 n0 keep (ordJs n0 keep mv (mv.foldl openNil st))
  ⟨s.fr,ks.foldl softAt s.H⟩
def TidyOk (N n0:Nat) (τ:St→St):Prop:=∀ (w0:World) (bs:List Nat) (st:St) (B:List Value) (a:Act) (w:World),Slots N st.fr B a→Mem w0 bs st.H B w→n0≤B.length→∃ B',B.take n0 <+: B'∧Slots N (τ st).fr B' a∧Mem w0 bs (τ st).H B' w
theorem ord_ok {N n0:Nat} (keep:List Nat) (mv:Mw) (ks:List Nat):TidyOk N n0 (St.ord n0 keep mv ks):=by
  intro w0 bs st B a w h hm hn
  obtain ⟨B1,p1,h1,m1⟩:=openNils_ok mv h hm
  have hl:=p1.length_le
  obtain ⟨B2,p2,h2,m2⟩:=ord1_ok h1 m1 (n0:=n0) (by omega) keep (ordJs n0 keep mv (mv.foldl openNil st)) (fun j hj=>by
    have:=(List.mem_filter.1 hj).2
    simp only [Bool.and_eq_true,Nat.blt_eq] at this
    exact this.2)
  refine ⟨B2,?_,h2,softs_mem ks m2⟩
  obtain ⟨l,rfl⟩:=p1
  rwa [List.take_append_of_le_length hn] at p2
section
variable {P:Program} {C:Cfg} {N:Nat}
def roundG (P:Program) (C:Cfg) (Lb:Nat→St→Option (T (Ex×St))) (N:Nat) (id:Nat) (body:Code) (τ:St→St) (st:St):T (Ex×St) :=
  (runC P C Lb N body st).bind fun r=>match r.1 with
    | .normal=>.leaf (.normal,τ r.2)
    | .exit k=>bif Nat.beq k id then .leaf (.exit id,τ r.2) else .leaf r
    | .ret=>.leaf r
theorem loop_gen (hC:CfgOk P C) (hP:P.follows .mixedOrders=true) {Lb:Nat→St→Option (T (Ex×St))} {id:Nat} {body:Code} (hlex:lexAll C body=true)
    (hL:∀ id' b,(id',b) ∈ loopsOf body→∀ st t,Lb id' st=some t→RunOk P N (.block id' (.loop b)) st t) {ι:Type} (I:ι→Prop) (inv:ι→St) (μ:ι→Nat) (n0:Nat) {τ:St→St} (hτ:TidyOk N n0 τ) {t:T (Ex×St)}
    (hround:∀ Qs,t.ok Qs→∀ i,I i→∃ st',Alt (inv i) st'∧(roundG P C Lb N id body τ st').ok (Behind id I inv μ i Qs)) {st:St} {i0:ι} (h0:I i0) :
    RunOk P N (.block id (.loop body)) st (.need (st.H.length=n0) (.need (τ st=inv i0) t)):=by
  intro w0 bs pre B a w Qs Q hp hsl hm hq hQ
  obtain ⟨hn0,hst,hq⟩:=hq
  have hlen:B.length=n0:=hm.sat.len.trans hn0
  have hB0:B.take n0=B:=List.take_of_length_le (by omega)
  obtain ⟨B0,p0,hsl0,hm0⟩:=hτ w0 bs st B a w hsl hm (by omega)
  rw [hB0] at p0
  rw [hst] at hsl0 hm0
  refine wp_block ?_
  refine wp_loop_idx (ι:=ι) (fun i a w=>I i∧∃ B1,B <+: B1∧Slots N (inv i).fr B1 a∧Mem w0 bs (inv i).H B1 w) μ (fun i a w hi=>?_) i0 a w ⟨h0,_,p0,hsl0,hm0⟩
  obtain ⟨hI,B1,p1,hs,hmi⟩:=hi
  obtain ⟨sa,hal,hro⟩:=hround Qs hq i hI
  refine runC_ok hC hP body hlex hL sa w0 bs B1 B1 a w _ _ (List.prefix_refl _) (hal.2 _ _ _ hs) (by rw [hal.1];exact hmi) (T.ok_bind hro) fun r B' a' w' hr hpre hs' hm'=>?_
  obtain ⟨e,st'⟩:=r
  have hpB:B <+: B':=p1.trans hpre
  have hBt:B'.take n0=B:=by
    obtain ⟨l,rfl⟩:=hpB
    rw [← hlen,List.take_left]
  have hnB:n0≤B'.length:=by have:=hpB.length_le;omega
  obtain ⟨B2,p2,hon,hom⟩:=hτ w0 bs st' B' a' w' hs' hm' hnB
  rw [hBt] at p2
  cases e with
  | normal =>
    obtain ⟨j,hj,hlt,e⟩:=hr
    exact ⟨j,hlt,hj,B2,p2,by rw [← e];exact hon,by rw [← e];exact hom⟩
  | ret=>exact hQ _ B' a' w' hr (hp.trans hpB) hs' hm'
  | exit k =>
    simp only [Ex.to,Exit.then,Exit.inBlock]
    by_cases e:k=id
    · subst e
      simp only [Nat.beq_refl,cond_true] at hr
      have hr:(if k=k then Qs (.normal,τ st') else Qs (.exit k,τ st')):=hr
      rw [if_pos rfl] at hr ⊢
      exact hQ _ _ a' w' hr (hp.trans p2) hon hom
    · simp only [nat_beq_ne e,cond_false] at hr
      have hr:(if k=id then Qs (.normal,st') else Qs (.exit k,st')):=hr
      rw [if_neg e] at hr ⊢
      exact hQ _ B' a' w' hr (hp.trans hpB) hs' hm'
theorem loopG_cnt (hC:CfgOk P C) (hP:P.follows .mixedOrders=true) {Lb:Nat→St→Option (T (Ex×St))} {id:Nat} {body:Code} (hlex:lexAll C body=true)
    (hL:∀ id' b,(id',b) ∈ loopsOf body→∀ st t,Lb id' st=some t→RunOk P N (.block id' (.loop b)) st t) {ι:Type} (I:ι→Prop) (inv:ι→St) (μ:ι→Nat) (n0:Nat) {τ:St→St} (hτ:TidyOk N n0 τ) (n:ι) (cs:List Nat)
    (hround:∀ i,I i→i ≠ n→(roundG P C Lb N id body τ (inv i)).ok fun r=>r.1 = .normal∧∃ j,I j∧μ j < μ i∧r.2=inv j) {st:St} {i0:ι} (h0:I i0) :
    RunOk P N (.block id (.loop body)) st (.need (st.H.length=n0) (.need (τ st=inv i0) ((roundG P C Lb N id body τ (closeAt cs (inv n))).bind (lastX id)))):=by
  refine loop_gen hC hP hlex hL I inv μ n0 hτ (fun Qs hq i hi=>?_) h0
  by_cases e:i=n
  · subst e
    refine ⟨_,closeAt_alt cs _,T.ok_mono (fun r hr=>?_) (T.ok_bind hq)⟩
    obtain ⟨x,st'⟩:=r
    cases x with
    | normal=>exact (hr:False).elim
    | ret=>exact hr
    | exit k =>
      unfold Behind
      simp only [lastX] at hr ⊢
      by_cases ek:k=id
      · subst ek
        rw [Nat.beq_refl,cond_true] at hr
        rw [if_pos rfl];exact hr
      · rw [nat_beq_ne ek,cond_false] at hr
        rw [if_neg ek];exact hr
  · refine ⟨_,.refl _,T.ok_mono (fun r hr=>?_) (hround i hi e)⟩
    obtain ⟨x,st'⟩:=r
    obtain ⟨h1,j,h2,h3,h4⟩:=hr
    simp only at h1
    subst h1
    exact ⟨j,h2,h3,h4⟩
end
def rowIn (sz:Nat) (H:List Blk):SV→Option (Nat×(Nat→Nat→Value))
  | .ref k=>(match H[k]? with
    | some (.row n z f)=>bif Nat.beq z sz then some (n,f) else none
    | some (.vec _ _ z n xs)=>bif Nat.beq z sz then some (n,fun i j=>cellAt xs (i * sz+j)) else none
    | _=>none)
  | .v (.slice none 0 0)=>some (0,fun _ _=>undef)
  | .c (.slice none 0 0)=>some (0,fun _ _=>undef)
  | _=>none
theorem rowIn_ok {w0:World} {bs:List Nat} {H:List Blk} {B:List Value} {w:World} (hm:Mem w0 bs H B w) {sz:Nat} {s:SV} {u:Value} (hs:s.to B=some u) {n:Nat} {f:Nat→Nat→Value} (h:rowIn sz H s=some (n,f)):∀ B',BlkSat B' w u (.row n sz f):=by
  intro B'
  have nil:u = .slice none 0 0→n=0→BlkSat B' w u (.row n sz f):=by
    rintro rfl rfl
    exact ⟨none,0,rfl,Nat.le_refl _,Nat.zero_le _,fun i j hi=>absurd hi (Nat.not_lt_zero _)⟩
  unfold rowIn at h
  split at h
  · rename_i k
    split at h
    · rename_i n' z f' hk
      cases hb:Nat.beq z sz
      · rw [hb] at h;cases h
      · rw [hb,cond_true,Option.some.injEq,Prod.mk.injEq] at h
        obtain ⟨rfl,rfl⟩:=h
        have:=Nat.eq_of_beq_eq_true hb
        subst this
        exact hm.sat.blk k _ u hk hs
    · rename_i o e z n' xs hk
      cases hb:Nat.beq z sz
      · rw [hb] at h;cases h
      · rw [hb,cond_true,Option.some.injEq,Prod.mk.injEq] at h
        obtain ⟨rfl,rfl⟩:=h
        have:=Nat.eq_of_beq_eq_true hb
        subst this
        exact rowBlk_sat (hm.sat.blk k _ u hk hs)
    · cases h
  · simp only [Option.some.injEq,Prod.mk.injEq] at h
    simp only [SV.to,Option.some.injEq] at hs
    exact nil hs.symm h.1.symm
  · simp only [Option.some.injEq,Prod.mk.injEq] at h
    simp only [SV.to,Option.some.injEq] at hs
    exact nil hs.symm h.1.symm
  · cases h
def aggOf:SV→Option (List SV)
  | .agg l=>some (l.map openS)
  | .v (.agg ⟨l⟩)=>some (l.map .v)
  | .c (.agg ⟨l⟩)=>some (l.map .v)
  | _=>none
theorem aggOf_ok {B:List Value} {s:SV} {u:Value} (hs:s.to B=some u) {l:List SV} (h:aggOf s=some l):∃ vs,SV.tos B l=some vs∧u = .agg vs.toArray:=by
  unfold aggOf at h
  split at h
  · simp only [Option.some.injEq] at h;subst h
    simp only [SV.to,Option.map_eq_some_iff] at hs
    obtain ⟨vs,h1,h2⟩:=hs
    exact ⟨vs,by rw [opens_tos];exact h1,h2.symm⟩
  · simp only [Option.some.injEq] at h;subst h
    simp only [SV.to,Option.some.injEq] at hs
    exact ⟨_,tos_plain _ _,hs.symm⟩
  · simp only [Option.some.injEq] at h;subst h
    simp only [SV.to,Option.some.injEq] at hs
    exact ⟨_,tos_plain _ _,hs.symm⟩
  · cases h
theorem tos_cons {B:List Value} {s:SV} {l:List SV} {vs:List Value} (h:SV.tos B (s :: l)=some vs):∃ x xs,s.to B=some x∧SV.tos B l=some xs∧vs=x :: xs:=by
  simp only [SV.tos] at h
  split at h
  · rename_i x xs h1 h2
    simp only [Option.some.injEq] at h
    exact ⟨x,xs,h1,h2,h.symm⟩
  · cases h
theorem tos_nil {B:List Value} {vs:List Value} (h:SV.tos B []=some vs):vs=[]:=by simpa [SV.tos] using h.symm
def addR (k:FuncId) (h:List SV→List Blk→Option (List Prop×Value)) (F:LTab):LTab:=fun f ss H=>bif Nat.beq f k then (match h (ss.map openS) H with
  | some (p,v)=>some (needs p (.leaf (.v v,H)))
  | none=>none) else F f ss H
def ReadOk (P:Program) (k:FuncId) (h:List SV→List Blk→Option (List Prop×Value)):Prop :=
  ∀ ss H p v,h ss H=some (p,v)→∀ (bs:List Nat) (B:List Value) (w:World) (vs:List Value),Mem w bs H B w→SV.tos B ss=some vs→(∀ q ∈ p,q)→Calls P k vs.toArray w fun e w'=>e = .returned v∧Below w.heap.size w w'
theorem addR_ok {P:Program} {k:FuncId} {h:List SV→List Blk→Option (List Prop×Value)} {F:LTab} (hF:LOk P F) (hg:isGo P k=true) (hh:ReadOk P k h):LOk P (addR k h F):=by
  intro f ss H t hf
  unfold addR at hf
  cases hb:Nat.beq f k
  · rw [hb] at hf;exact hF f ss H t hf
  · rw [hb,cond_true] at hf
    obtain rfl:f=k:=Nat.eq_of_beq_eq_true hb
    split at hf
    · rename_i p v hpv
      simp only [Option.some.injEq] at hf
      subst hf
      refine ⟨hg,fun bs B w vs hm hv Qs hq=>?_⟩
      obtain ⟨h1,h2⟩:=needs_ok hq
      refine (hh _ _ p v hpv bs B w vs hm (by rw [opens_tos];exact hv) h1).mono ?_
      rintro e w' ⟨rfl,hbw⟩
      exact ⟨.v v,H,B,v,h2,List.prefix_refl _,rfl,rfl,hm.below hbw⟩
    · cases hf
end Go.Proofs.YthacfgaacleaeaaGreatDoor.Sym
namespace Go.Proofs.YthacfgaacleaeaaGreatDoor
open Go.IntKind (i64 u32)
open Go.RowKit Sym Sha Go.ChangeShapes Go.WideShapes Go.ChangeMaps
def FCut1 (P:Program) (fTake fLeft:Func):LTab:=addT 130 (inl P (onlyS P noS) noL fLeft) (addT 138 (inl P (onlyS P noS) noL fTake) noF)
def FCut2 (P:Program) (fTake fLeft fBytes:Func):LTab:=addT 94 (inl P (both P noS (FCut1 P fTake fLeft) [138]) noL fBytes) (FCut1 P fTake fLeft)
theorem FCut1_ok:LOk Tryz.prog (FCut1 Tryz.prog Tryz.f138 Tryz.f130) :=
  addT_ok (addT_ok noF_ok (by kernel_rfl) (inl_ok (onlyS_ok noS_ok) follows Tryz.func138 (by kernel_rfl) (by kernel_rfl) (noloops (by kernel_rfl)))) (by kernel_rfl) (inl_ok (onlyS_ok noS_ok) follows Tryz.func130 (by kernel_rfl) (by kernel_rfl) (noloops (by kernel_rfl)))
theorem FCut2_ok:LOk Tryz.prog (FCut2 Tryz.prog Tryz.f138 Tryz.f130 Tryz.f94) :=
  addT_ok FCut1_ok (by kernel_rfl) (inl_ok (both_ok noS_ok FCut1_ok) follows Tryz.func94 (by kernel_rfl) (by kernel_rfl) (noloops (by kernel_rfl)))
theorem FRef0_ok:LOk Tryz.prog (addT 122 (inl Tryz.prog (onlyS Tryz.prog noS) noL Tryz.f122) noF):=addT_ok noF_ok (by kernel_rfl) (inl_ok (onlyS_ok noS_ok) follows Tryz.func122 (by kernel_rfl) (by kernel_rfl) (noloops (by kernel_rfl)))
set_option maxRecDepth 100000 in
theorem num_run (s:ByteArray) (a k:Int):trimT 1 (runF Tryz.prog (both Tryz.prog SOct (FCut2 Tryz.prog Tryz.f138 Tryz.f130 Tryz.f94) [138,94]) noL Tryz.f93 (Tryz.f93.body.getD .skip) [.ptr 0 0,.v (.int .i64 k)] [.own [.v (.string s),.v (.int .i64 a),.v (.int .i64 0)]]) =
 letI q7:SV:=.v (.string s);
 letI q9:SV:=.v (.int .i64 a);
 letI q0:Value:=.int .i64 0;
 letI q:List Blk:=[.own [q7,q9,.v q0]];
 letI q1:List Blk:=[.own [q7,q9,.c (.int .i64 3)]];
 letI q4:=i64.wrap (a+k) - k;
 letI q8:=i64.wrap (a+k);
 letI q2:=s.extract (i64.wrap q4).toNat q8.toNat;
 letI q3:=0≤9223372036854775807;
 letI q5:=decide (k > i64.wrap ((↑s.size:Int) - a));
 letI q6:List Blk:=[.own [q7,q9,.c (.int .i64 1)]];
 letI p:=(.c q0,q);
 .ite (decide (k < (1:Int))) (.ite false (.leaf p) (.leaf (.c q0,q1))) (.ite false (.leaf p) (.ite (decide (k > (7:Int))) (.leaf (.c q0,q1)) (.ite q5 (.leaf (.c q0,q6)) (.ite false (.leaf p) (.ite false (.need q3 (.leaf (.v q0,q))) (.ite (decide (k < (0:Int))) (.need q3 (.leaf (.v q0,q1))) (.ite q5 (.need q3 (.leaf (.v q0,q6))) (.ite false (.need q3 (.leaf (.v q0,q))) (.need ((0:Int)≤i64.wrap q4∧i64.wrap q4≤i64.wrap (a+k)∧i64.wrap (a+k)≤(↑s.size:Int)) (.need (q2.size≤9223372036854775807) (.leaf (.v (.int .i64 (wrap64 (valU q2))),[.own [q7,.v (.int .i64 q8),.v q0]])))))))))))):=by kernel_rfl
set_option maxRecDepth 100000 in
theorem rest_run (s:ByteArray) (a:Int):trimT 1 (runF Tryz.prog (both Tryz.prog noS (FCut2 Tryz.prog Tryz.f138 Tryz.f130 Tryz.f94) [94,130]) noL Tryz.f80 (Tryz.f80.body.getD .skip) [.ptr 0 0] [.own [.v (.string s),.v (.int .i64 a),.v (.int .i64 0)]]) =
 letI q1:=(↑s.size:Int) - a;
 letI q:=a+i64.wrap q1;
 letI q0:=SV.c (Value.string (ByteArray.mk (Array.mk [])));
 letI q2:=i64.wrap q - i64.wrap q1;
 letI q4:SV:=.v (.string s);
 letI q5:SV:=.v (.int .i64 a);
 letI q3:T (SV×List Blk):=.leaf (q0,[.own [q4,q5,.v (.int .i64 0)]]);
 letI q6:=i64.wrap q;
 .ite false q3 (.ite (decide (i64.wrap q1 < (0:Int))) (.leaf (q0,[.own [q4,q5,.c (.int .i64 3)]])) (.ite (decide (i64.wrap q1 > i64.wrap q1)) (.leaf (q0,[.own [q4,q5,.c (.int .i64 1)]])) (.ite false q3 (.need ((0:Int)≤i64.wrap q2∧i64.wrap q2≤i64.wrap q∧i64.wrap q≤(↑s.size:Int)) (.leaf (.v (.string (s.extract (i64.wrap q2).toNat q6.toNat)),[.own [q4,.v (.int .i64 q6),.v (.int .i64 0)]])))))):=by kernel_rfl
set_option maxRecDepth 100000 in
theorem num01_run (s:ByteArray) (a k:Int):trimT 1 (runF Tryz.prog (both Tryz.prog SOct (addT 122 (inl Tryz.prog (onlyS Tryz.prog noS) noL Tryz.f122) noF) [122]) noL Tryz.f85 (Tryz.f85.body.getD .skip) [.ptr 0 0,.v (.int .i64 k)] [.own [.v (.string s),.v (.int .i64 a),.v (.int .i64 0)]]) =
 letI q4:=0≤9223372036854775807;
 letI q3:SV:=.v (.int .i64 0);
 letI q5:SV:=.v (.string s);
 letI q7:SV:=.v (.int .i64 a);
 letI q0:T (SV×List Blk):=.need q4 (.leaf (q3,[.own [q5,q7,.c (.int .i64 3)]]));
 letI q2:=i64.wrap (a+k) - k;
 letI q6:=i64.wrap (a+k);
 letI q1:=s.extract (i64.wrap q2).toNat q6.toNat;
 letI q:T (SV×List Blk):=.ite false (.need q4 (.leaf (q3,[.own [q5,q7,q3]]))) (.ite (decide (k < (0:Int))) q0 (.ite (decide (k > i64.wrap ((↑s.size:Int) - a))) (.need q4 (.leaf (q3,[.own [q5,q7,.c (.int .i64 1)]]))) (.need ((0:Int)≤i64.wrap q2∧i64.wrap q2≤i64.wrap (a+k)∧i64.wrap (a+k)≤(↑s.size:Int)) (.need (q1.size≤9223372036854775807) (.leaf (.v (.int .i64 (i64.wrap (valU q1))),[.own [q5,.v (.int .i64 q6),q3]]))))));
 .ite true (.ite (decide (k < (1:Int))) q0 (.ite (decide (k > (7:Int))) q0 q)) q:=by kernel_rfl
set_option maxRecDepth 100000 in
theorem rest01_run (s:ByteArray) (a:Int):trimT 1 (runF Tryz.prog (both Tryz.prog noS (addT 122 (inl Tryz.prog (onlyS Tryz.prog noS) noL Tryz.f122) noF) [122]) noL Tryz.f87 (Tryz.f87.body.getD .skip) [.ptr 0 0] [.own [.v (.string s),.v (.int .i64 a),.v (.int .i64 0)]]) =
 letI q0:=(↑s.size:Int) - a;
 letI q:=a+i64.wrap q0;
 letI q1:=SV.c (Value.string (ByteArray.mk (Array.mk [])));
 letI q2:=i64.wrap q - i64.wrap q0;
 letI q3:SV:=.v (.string s);
 letI q4:SV:=.v (.int .i64 a);
 letI q5:=i64.wrap q;
 .ite false (.leaf (q1,[.own [q3,q4,.v (.int .i64 0)]])) (.ite (decide (i64.wrap q0 < (0:Int))) (.leaf (q1,[.own [q3,q4,.c (.int .i64 3)]])) (.ite (decide (i64.wrap q0 > i64.wrap q0)) (.leaf (q1,[.own [q3,q4,.c (.int .i64 1)]])) (.need ((0:Int)≤i64.wrap q2∧i64.wrap q2≤i64.wrap q∧i64.wrap q≤(↑s.size:Int)) (.leaf (.v (.string (s.extract (i64.wrap q2).toNat q5.toNat)),[.own [q3,.v (.int .i64 q5),.v (.int .i64 0)]]))))):=by kernel_rfl
end Go.Proofs.YthacfgaacleaeaaGreatDoor
namespace Go.Proofs.YthacfgaacleaeaaGreatDoor
open Go.IntKind (i64 u32)
open Go.RowKit Sym Sha Go.ChangeShapes Go.WideShapes Go.ChangeMaps
def fCutNum:List SV→List Blk→Option (T (SV×List Blk))
  | [.ptr 0 0,.v (.int .i64 k)],[.own [.v (.string s),.v (.int .i64 a),.v (.int .i64 z)]]=>some (.need (z=0∧0≤a∧1≤k∧k≤7∧a+k≤s.size∧s.size≤1000000) (.leaf (.v (.int .i64 (valU (s.extract a.toNat (a+k).toNat))),[.own [.v (.string s),.v (.int .i64 (a+k)),.v (.int .i64 0)]])))
  | _,_=>none
def fCutRest:List SV→List Blk→Option (T (SV×List Blk))
  | [.ptr 0 0],[.own [.v (.string s),.v (.int .i64 a),.v (.int .i64 z)]]=>some (.need (z=0∧0≤a∧a≤s.size∧s.size≤1000000) (.leaf (.v (.string (s.extract a.toNat s.size)),[.own [.v (.string s),.v (.int .i64 s.size),.v (.int .i64 0)]])))
  | _,_=>none
theorem ext_size (s:ByteArray) (a k:Int) (h:0≤a∧1≤k∧k≤7∧a+k≤s.size):(s.extract a.toNat (a+k).toNat).size=k.toNat:=by rw [ByteArray.size_extract];omega
set_option maxRecDepth 100000 in
theorem fCutNum_ok:EntryOk Tryz.prog 93 fCutNum:=by
  intro ss H t ht bs B w vs hm hv Qs hq
  unfold fCutNum at ht
  split at ht
  · rename_i k s a z
    simp only [Option.some.injEq] at ht
    subst ht
    obtain ⟨⟨rfl,q1,q2,q3,q4,q5⟩,hq⟩:=hq
    refine trimT_ok (both_ok SOct_ok FCut2_ok) follows Tryz.func93 (by kernel_rfl) (by kernel_rfl) (noloops (by kernel_rfl)) (num_run s a k) hm hv ?_
    have e1:i64.wrap (a+k)=a+k:=w64 _ (by omega) (by omega)
    have e2:i64.wrap ((s.size:Int) - a)=(s.size:Int) - a:=w64 _ (by omega) (by omega)
    have e3:i64.wrap (a+k - k)=a:=by rw [w64 _ (by omega) (by omega)];omega
    have e4:=ext_size s a k ⟨q1,q2,q3,q4⟩
    have e5:=(wrap_valU (s.extract a.toNat (a+k).toNat) 7 (by omega) (by omega)).1
    simp only [e1,e2,e3,e5,T.ok,decide_eq_true_eq,decide_eq_false_iff_not,Bool.true_eq_false,Bool.false_eq_true,reduceCtorEq,false_implies,true_implies,and_true,true_and]
    repeat' (first | refine And.intro ?_ ?_ | intro _)
    all_goals first | omega | exact hq
  · cases ht
set_option maxRecDepth 100000 in
theorem fNum01_ok:EntryOk Tryz.prog 85 fCutNum:=by
  intro ss H t ht bs B w vs hm hv Qs hq
  unfold fCutNum at ht
  split at ht
  · rename_i k s a z
    simp only [Option.some.injEq] at ht
    subst ht
    obtain ⟨⟨rfl,q1,q2,q3,q4,q5⟩,hq⟩:=hq
    refine trimT_ok (both_ok SOct_ok FRef0_ok) follows Tryz.func85 (by kernel_rfl) (by kernel_rfl) (noloops (by kernel_rfl)) (num01_run s a k) hm hv ?_
    have e1:i64.wrap (a+k)=a+k:=w64 _ (by omega) (by omega)
    have e2:i64.wrap ((s.size:Int) - a)=(s.size:Int) - a:=w64 _ (by omega) (by omega)
    have e3:i64.wrap (a+k - k)=a:=by rw [w64 _ (by omega) (by omega)];omega
    have e4:=ext_size s a k ⟨q1,q2,q3,q4⟩
    have e5:=(wrap_valU (s.extract a.toNat (a+k).toNat) 7 (by omega) (by omega)).2
    simp only [e1,e2,e3,e5,T.ok,decide_eq_true_eq,decide_eq_false_iff_not,Bool.true_eq_false,Bool.false_eq_true,reduceCtorEq,false_implies,true_implies,and_true,true_and]
    repeat' (first | refine And.intro ?_ ?_ | intro _)
    all_goals first | omega | exact hq
  · cases ht
set_option maxRecDepth 100000 in
theorem fCutRest_ok:EntryOk Tryz.prog 80 fCutRest:=by
  intro ss H t ht bs B w vs hm hv Qs hq
  unfold fCutRest at ht
  split at ht
  · rename_i s a z
    simp only [Option.some.injEq] at ht
    subst ht
    obtain ⟨⟨rfl,q1,q4,q5⟩,hq⟩:=hq
    refine trimT_ok (both_ok noS_ok FCut2_ok) follows Tryz.func80 (by kernel_rfl) (by kernel_rfl) (noloops (by kernel_rfl)) (rest_run s a) hm hv ?_
    have e2:i64.wrap ((s.size:Int) - a)=(s.size:Int) - a:=w64 _ (by omega) (by omega)
    have e1:i64.wrap (a+((s.size:Int) - a))=s.size:=by rw [w64 _ (by omega) (by omega)];omega
    have e3:i64.wrap ((s.size:Int) - ((s.size:Int) - a))=a:=by rw [w64 _ (by omega) (by omega)];omega
    simp only [e2,e1,e3,T.ok,decide_eq_true_eq,decide_eq_false_iff_not,Bool.true_eq_false,Bool.false_eq_true,reduceCtorEq,false_implies,true_implies,and_true,true_and,Int.toNat_natCast]
    repeat' (first | refine And.intro ?_ ?_ | intro _)
    all_goals first | omega | exact hq
  · cases ht
set_option maxRecDepth 100000 in
theorem fRest01_ok:EntryOk Tryz.prog 87 fCutRest:=by
  intro ss H t ht bs B w vs hm hv Qs hq
  unfold fCutRest at ht
  split at ht
  · rename_i s a z
    simp only [Option.some.injEq] at ht
    subst ht
    obtain ⟨⟨rfl,q1,q4,q5⟩,hq⟩:=hq
    refine trimT_ok (both_ok noS_ok FRef0_ok) follows Tryz.func87 (by kernel_rfl) (by kernel_rfl) (noloops (by kernel_rfl)) (rest01_run s a) hm hv ?_
    have e2:i64.wrap ((s.size:Int) - a)=(s.size:Int) - a:=w64 _ (by omega) (by omega)
    have e1:i64.wrap (a+((s.size:Int) - a))=s.size:=by rw [w64 _ (by omega) (by omega)];omega
    have e3:i64.wrap ((s.size:Int) - ((s.size:Int) - a))=a:=by rw [w64 _ (by omega) (by omega)];omega
    simp only [e2,e1,e3,T.ok,decide_eq_true_eq,decide_eq_false_iff_not,Bool.true_eq_false,Bool.false_eq_true,reduceCtorEq,false_implies,true_implies,and_true,true_and,Int.toNat_natCast]
    repeat' (first | refine And.intro ?_ ?_ | intro _)
    all_goals first | omega | exact hq
  · cases ht
def fCutLeft:List SV→List Blk→Option (T (SV×List Blk))
  | [.ptr 0 0],[.own [.v (.string s),.v (.int .i64 a),.v (.int .i64 z)]]=>some (.need (0≤a∧a≤s.size∧s.size≤1000000) (.leaf (.v (.int .i64 ((s.size:Int) - a)),[.own [.v (.string s),.v (.int .i64 a),.v (.int .i64 z)]])))
  | _,_=>none
set_option maxRecDepth 100000 in
theorem left_run (s:ByteArray) (a z:Int):trimT 1 (runF Tryz.prog (onlyS Tryz.prog noS) noL Tryz.f130 (Tryz.f130.body.getD .skip) [.ptr 0 0] [.own [.v (.string s),.v (.int .i64 a),.v (.int .i64 z)]]) = .leaf (.v (.int .i64 (i64.wrap ((↑s.size:Int) - a))),[.own [.v (.string s),.v (.int .i64 a),.v (.int .i64 z)]]):=by kernel_rfl
set_option maxRecDepth 100000 in
theorem fCutLeft_ok:EntryOk Tryz.prog 130 fCutLeft:=by
  intro ss H t ht bs B w vs hm hv Qs hq
  unfold fCutLeft at ht
  split at ht
  · rename_i s a z
    simp only [Option.some.injEq] at ht
    subst ht
    obtain ⟨⟨q1,q2,q3⟩,hq⟩:=hq
    refine trimT_ok (onlyS_ok noS_ok) follows Tryz.func130 (by kernel_rfl) (by kernel_rfl) (noloops (by kernel_rfl)) (left_run s a z) hm hv ?_
    have e2:i64.wrap ((s.size:Int) - a)=(s.size:Int) - a:=w64 _ (by omega) (by omega)
    rw [e2]
    exact hq
  · cases ht
def FCook (P:Program) (fNew:Func):LTab:=addT 76 (inl P (onlyS P noS) noL fNew) <| addF 130 fCutLeft <| addF 93 fCutNum <| addF 80 fCutRest <| addF 85 fCutNum <| addF 87 fCutRest noF
theorem FCook_ok:LOk Tryz.prog (FCook Tryz.prog Tryz.f76) :=
  addT_ok (addF_ok (addF_ok (addF_ok (addF_ok (addF_ok noF_ok (by kernel_rfl) fRest01_ok) (by kernel_rfl) fNum01_ok) (by kernel_rfl) fCutRest_ok) (by kernel_rfl) fCutNum_ok) (by kernel_rfl) fCutLeft_ok) (by kernel_rfl) (inl_ok (onlyS_ok noS_ok) follows Tryz.func76 (by kernel_rfl) (by kernel_rfl) (noloops (by kernel_rfl)))
abbrev fsCut:List Nat:=[130,93,80,76,85,87]
abbrev CC (P:Program) (S:Tab) (fNew:Func):Cfg:=both P S (FCook P fNew) fsCut
theorem CC_ok {S:Tab} (h:TabOk Tryz.prog S):CfgOk Tryz.prog (CC Tryz.prog S Tryz.f76):=both_ok h FCook_ok
end Go.Proofs.YthacfgaacleaeaaGreatDoor
namespace Go.Proofs.YthacfgaacleaeaaGreatDoor
open Go.IntKind (i64 u32)
open Go.RowKit Sym Sha Go.ChangeShapes Go.WideShapes Go.ChangeMaps
set_option maxRecDepth 100000 in
theorem num0_run (s:ByteArray) (a k:Int):trimT 1 (runF Tryz.prog (both Tryz.prog SOct (FCut2 Tryz.prog Tryz.f138 Tryz.f130 Tryz.f94) [138,94]) noL Tryz.f93 (Tryz.f93.body.getD .skip) [.ptr 0 0,.v (.int .i64 k)] [.own [.v (.string s),.v (.int .i64 a),.c (.int .i64 0)]]) =
 letI q7:SV:=.v (.string s);
 letI q:List Blk:=[.own [q7,.v (.int .i64 a),.c (.int .i64 3)]];
 letI q1:=i64.wrap (a+k) - k;
 letI q6:=i64.wrap (a+k);
 letI q0:=s.extract (i64.wrap q1).toNat q6.toNat;
 letI q2:=decide (k > i64.wrap ((↑s.size:Int) - a));
 letI q3:Value:=.int .i64 0;
 letI q4:List Blk:=[.own [q7,.v (.int .i64 a),.c (.int .i64 1)]];
 letI q5:=0≤9223372036854775807;
 .ite (decide (k < (1:Int))) (.leaf (.c q3,q)) (.ite (decide (k > (7:Int))) (.leaf (.c q3,q)) (.ite q2 (.leaf (.c q3,q4)) (.ite (decide (k < (0:Int))) (.need q5 (.leaf (.v q3,q))) (.ite q2 (.need q5 (.leaf (.v q3,q4))) (.need ((0:Int)≤i64.wrap q1∧i64.wrap q1≤i64.wrap (a+k)∧i64.wrap (a+k)≤(↑s.size:Int)) (.need (q0.size≤9223372036854775807) (.leaf (.v (.int .i64 (wrap64 (valU q0))),[.own [q7,.v (.int .i64 q6),.c q3]])))))))):=by kernel_rfl
set_option maxRecDepth 100000 in
theorem num1_run (s:ByteArray) (a k:Int):trimT 1 (runF Tryz.prog (both Tryz.prog SOct (FCut2 Tryz.prog Tryz.f138 Tryz.f130 Tryz.f94) [138,94]) noL Tryz.f93 (Tryz.f93.body.getD .skip) [.ptr 0 0,.v (.int .i64 k)] [.own [.v (.string s),.v (.int .i64 a),.c (.int .i64 1)]]) =
 letI q:=(.c (.int .i64 0),[.own [.v (.string s),.v (.int .i64 a),.c (.int .i64 1)]]);
 .ite (decide (k < (1:Int))) (.leaf q) (.leaf q):=by kernel_rfl
set_option maxRecDepth 100000 in
theorem bytes0_run (s:ByteArray) (a k:Int):trimT 1 (runF Tryz.prog (both Tryz.prog noS (FCut1 Tryz.prog Tryz.f138 Tryz.f130) [138]) noL Tryz.f94 (Tryz.f94.body.getD .skip) [.ptr 0 0,.v (.int .i64 k)] [.own [.v (.string s),.v (.int .i64 a),.c (.int .i64 0)]]) =
 letI q:=i64.wrap (a+k) - k;
 letI q0:=SV.c (Value.string (ByteArray.mk (Array.mk [])));
 letI q1:=i64.wrap (a+k);
 letI q2:SV:=.v (.string s);
 .ite (decide (k < (0:Int))) (.leaf (q0,[.own [q2,.v (.int .i64 a),.c (.int .i64 3)]])) (.ite (decide (k > i64.wrap ((↑s.size:Int) - a))) (.leaf (q0,[.own [q2,.v (.int .i64 a),.c (.int .i64 1)]])) (.need ((0:Int)≤i64.wrap q∧i64.wrap q≤i64.wrap (a+k)∧i64.wrap (a+k)≤(↑s.size:Int)) (.leaf (.v (.string (s.extract (i64.wrap q).toNat q1.toNat)),[.own [q2,.v (.int .i64 q1),.c (.int .i64 0)]])))):=by kernel_rfl
set_option maxRecDepth 100000 in
theorem bytes1_run (s:ByteArray) (a k:Int):trimT 1 (runF Tryz.prog (both Tryz.prog noS (FCut1 Tryz.prog Tryz.f138 Tryz.f130) [138]) noL Tryz.f94 (Tryz.f94.body.getD .skip) [.ptr 0 0,.v (.int .i64 k)] [.own [.v (.string s),.v (.int .i64 a),.c (.int .i64 1)]]) = .leaf (SV.c (Value.string (ByteArray.mk (Array.mk []))),[.own [.v (.string s),.v (.int .i64 a),.c (.int .i64 1)]]):=by kernel_rfl
set_option maxRecDepth 100000 in
theorem done0_run (s:ByteArray) (a:Int):trimT 1 (runF Tryz.prog (both Tryz.prog noS (FCut1 Tryz.prog Tryz.f138 Tryz.f130) [130]) noL Tryz.f95 (Tryz.f95.body.getD .skip) [.ptr 0 0] [.own [.v (.string s),.v (.int .i64 a),.c (.int .i64 0)]]) =
 letI q:List Blk:=[.own [.v (.string s),.v (.int .i64 a),.c (.int .i64 0)]];
 .ite (decide (i64.wrap ((↑s.size:Int) - a) > (0:Int))) (.leaf (.c (.int .i64 2),q)) (.leaf (.c (.int .i64 0),q)):=by kernel_rfl
set_option maxRecDepth 100000 in
theorem done1_run (s:ByteArray) (a:Int):trimT 1 (runF Tryz.prog (both Tryz.prog noS (FCut1 Tryz.prog Tryz.f138 Tryz.f130) [130]) noL Tryz.f95 (Tryz.f95.body.getD .skip) [.ptr 0 0] [.own [.v (.string s),.v (.int .i64 a),.c (.int .i64 1)]]) = .leaf (.c (.int .i64 1),[.own [.v (.string s),.v (.int .i64 a),.c (.int .i64 1)]]):=by kernel_rfl
def cutOpen:List Blk→Option (ByteArray×Int×Int)
  | [.own [s0,a0,.c (.int .i64 e)]]=>(match openS s0,openS a0 with
    | .v (.string s),.v (.int .i64 a)=>some (s,a,e)
    | _,_=>none)
  | _=>none
theorem cutOpen_mem {w0:World} {bs:List Nat} {H:List Blk} {B:List Value} {w:World} {s:ByteArray} {a e:Int} (h:cutOpen H=some (s,a,e)) (hm:Mem w0 bs H B w):Mem w0 bs [.own [.v (.string s),.v (.int .i64 a),.c (.int .i64 e)]] B w:=by
  unfold cutOpen at h
  split at h
  · rename_i s0 a0 e0
    split at h
    · rename_i s' a' hs ha
      simp only [Option.some.injEq,Prod.mk.injEq] at h
      obtain ⟨rfl,rfl,rfl⟩:=h
      obtain ⟨u,hu⟩:=hm.sat.getB (k:=0) rfl
      obtain ⟨b,vs,rfl,h2,h3⟩:=hm.sat.blk 0 _ u rfl hu
      have hsat:BlkSat B w (.pointer (some ⟨b,0,none⟩)) (.own [.v (.string s'),.v (.int .i64 a'),.c (.int .i64 e0)]):=by
        refine ⟨b,vs,rfl,?_,h3⟩
        rw [← h2]
        simp only [SV.tos]
        rw [← openS_to s0,← openS_to a0,hs,ha]
      exact hm.upd (k:=0) (x:=.own [s0,a0,.c (.int .i64 e0)]) rfl rfl hu (grown_self w _) rfl hsat
    · cases h
  · cases h
def ownC (s:ByteArray) (a e:Int):List Blk:=[.own [.v (.string s),.v (.int .i64 a),.c (.int .i64 e)]]
def fNumC:List SV→List Blk→Option (T (SV×List Blk))
  | [.ptr 0 0,k0],H=>match openS k0,cutOpen H with
    | .v (.int .i64 k),some (s,a,0)=>some (.need (0≤a∧a≤s.size∧1≤k∧k≤7∧s.size≤1000000) (.ite (decide (a+k≤s.size)) (.leaf (.v (.int .i64 (valU (s.extract a.toNat (a+k).toNat))),ownC s (a+k) 0)) (.leaf (.c (.int .i64 0),ownC s a 1))))
    | .v (.int .i64 k),some (s,a,1)=>some (.need (1≤k) (.leaf (.c (.int .i64 0),ownC s a 1)))
    | _,_=>none
  | _,_=>none
def fBytesC:List SV→List Blk→Option (T (SV×List Blk))
  | [.ptr 0 0,k0],H=>match openS k0,cutOpen H with
    | .v (.int .i64 k),some (s,a,0)=>some (.need (0≤a∧a≤s.size∧0≤k∧k≤1000000∧s.size≤1000000) (.ite (decide (a+k≤s.size)) (.leaf (.v (.string (s.extract a.toNat (a+k).toNat)),ownC s (a+k) 0)) (.leaf (.c (.string ⟨⟨[]⟩⟩),ownC s a 1))))
    | .v (.int .i64 _),some (s,a,1)=>some (.leaf (.c (.string ⟨⟨[]⟩⟩),ownC s a 1))
    | _,_=>none
  | _,_=>none
def fDoneC:List SV→List Blk→Option (T (SV×List Blk))
  | [.ptr 0 0],H=>match cutOpen H with
    | some (s,a,0)=>some (.need (0≤a∧a≤s.size∧s.size≤1000000) (.ite (decide (a < s.size)) (.leaf (.c (.int .i64 2),ownC s a 0)) (.leaf (.c (.int .i64 0),ownC s a 0))))
    | some (s,a,1)=>some (.leaf (.c (.int .i64 1),ownC s a 1))
    | _=>none
  | _,_=>none
end Go.Proofs.YthacfgaacleaeaaGreatDoor
namespace Go.Proofs.YthacfgaacleaeaaGreatDoor
open Go.IntKind (i64 u32)
open Go.RowKit Sym Sha Go.ChangeShapes Go.WideShapes Go.ChangeMaps
theorem ext_sizeC (s:ByteArray) (a k:Int) (h:0≤a∧1≤k∧k≤7∧a+k≤s.size):(s.extract a.toNat (a+k).toNat).size=k.toNat:=by rw [ByteArray.size_extract];omega
theorem opens2 {B:List Value} {s0 k0 s1:SV} {vs:List Value} (h:SV.tos B [s0,k0]=some vs) (e:openS k0=s1):SV.tos B [s0,s1]=some vs:=by
  rw [← h];simp only [SV.tos];rw [← openS_to k0,e]
set_option maxRecDepth 100000 in
theorem fNumC_ok:EntryOk Tryz.prog 93 fNumC:=by
  intro ss H t ht bs B w vs hm hv Qs hq
  unfold fNumC at ht
  split at ht
  · split at ht
    · rename_i k s a hk hc
      simp only [Option.some.injEq] at ht
      subst ht
      obtain ⟨⟨q1,q2,q3,q4,q5⟩,hq⟩:=hq
      refine trimT_ok (both_ok SOct_ok FCut2_ok) follows Tryz.func93 (by kernel_rfl) (by kernel_rfl) (noloops (by kernel_rfl)) (num0_run s a k) (cutOpen_mem hc hm) (opens2 hv hk) ?_
      have e2:i64.wrap ((s.size:Int) - a)=(s.size:Int) - a:=w64 _ (by omega) (by omega)
      have e1:i64.wrap (a+k)=a+k:=w64 _ (by omega) (by omega)
      have e3:i64.wrap (a+k - k)=a:=by rw [w64 _ (by omega) (by omega)];omega
      rw [e2,e1,e3]
      by_cases hs:a+k≤s.size
      · have e4:=ext_sizeC s a k ⟨q1,q3,q4,hs⟩
        have e5:=(wrap_valU (s.extract a.toNat (a+k).toNat) 7 (by omega) (by omega)).1
        rw [e5]
        have hq:=hq.1 (decide_eq_true hs)
        simp only [T.ok,decide_eq_true_eq,decide_eq_false_iff_not]
        repeat' (first | refine And.intro ?_ ?_ | intro _)
        all_goals first | omega | exact hq
      · have hq:=hq.2 (decide_eq_false hs)
        simp only [T.ok,decide_eq_true_eq,decide_eq_false_iff_not]
        repeat' (first | refine And.intro ?_ ?_ | intro _)
        all_goals first | omega | exact hq
    · rename_i k s a hk hc
      simp only [Option.some.injEq] at ht
      subst ht
      obtain ⟨q1,hq⟩:=hq
      refine trimT_ok (both_ok SOct_ok FCut2_ok) follows Tryz.func93 (by kernel_rfl) (by kernel_rfl) (noloops (by kernel_rfl)) (num1_run s a k) (cutOpen_mem hc hm) (opens2 hv hk) ?_
      exact ⟨fun _=>hq,fun _=>hq⟩
    · cases ht
  · cases ht
set_option maxRecDepth 100000 in
theorem fBytesC_ok:EntryOk Tryz.prog 94 fBytesC:=by
  intro ss H t ht bs B w vs hm hv Qs hq
  unfold fBytesC at ht
  split at ht
  · split at ht
    · rename_i k s a hk hc
      simp only [Option.some.injEq] at ht
      subst ht
      obtain ⟨⟨q1,q2,q3,q4,q5⟩,hq⟩:=hq
      refine trimT_ok (both_ok noS_ok FCut1_ok) follows Tryz.func94 (by kernel_rfl) (by kernel_rfl) (noloops (by kernel_rfl)) (bytes0_run s a k) (cutOpen_mem hc hm) (opens2 hv hk) ?_
      have e2:i64.wrap ((s.size:Int) - a)=(s.size:Int) - a:=w64 _ (by omega) (by omega)
      have e1:i64.wrap (a+k)=a+k:=w64 _ (by omega) (by omega)
      have e3:i64.wrap (a+k - k)=a:=by rw [w64 _ (by omega) (by omega)];omega
      rw [e2,e1,e3]
      by_cases hs:a+k≤s.size
      · have hq:=hq.1 (decide_eq_true hs)
        simp only [T.ok,decide_eq_true_eq,decide_eq_false_iff_not]
        repeat' (first | refine And.intro ?_ ?_ | intro _)
        all_goals first | omega | exact hq
      · have hq:=hq.2 (decide_eq_false hs)
        simp only [T.ok,decide_eq_true_eq,decide_eq_false_iff_not]
        repeat' (first | refine And.intro ?_ ?_ | intro _)
        all_goals first | omega | exact hq
    · rename_i k s a hk hc
      simp only [Option.some.injEq] at ht
      subst ht
      exact trimT_ok (both_ok noS_ok FCut1_ok) follows Tryz.func94 (by kernel_rfl) (by kernel_rfl) (noloops (by kernel_rfl)) (bytes1_run s a k) (cutOpen_mem hc hm) (opens2 hv hk) hq
    · cases ht
  · cases ht
set_option maxRecDepth 100000 in
theorem fDoneC_ok:EntryOk Tryz.prog 95 fDoneC:=by
  intro ss H t ht bs B w vs hm hv Qs hq
  unfold fDoneC at ht
  split at ht
  · split at ht
    · rename_i s a hc
      simp only [Option.some.injEq] at ht
      subst ht
      obtain ⟨⟨q1,q2,q5⟩,hq⟩:=hq
      refine trimT_ok (both_ok noS_ok FCut1_ok) follows Tryz.func95 (by kernel_rfl) (by kernel_rfl) (noloops (by kernel_rfl)) (done0_run s a) (cutOpen_mem hc hm) hv ?_
      have e2:i64.wrap ((s.size:Int) - a)=(s.size:Int) - a:=w64 _ (by omega) (by omega)
      rw [e2]
      refine ⟨fun h=>hq.1 (decide_eq_true ?_),fun h=>hq.2 (decide_eq_false ?_)⟩
      · have h:=of_decide_eq_true h;omega
      · have h:=of_decide_eq_false h;omega
    · rename_i s a hc
      simp only [Option.some.injEq] at ht
      subst ht
      exact trimT_ok (both_ok noS_ok FCut1_ok) follows Tryz.func95 (by kernel_rfl) (by kernel_rfl) (noloops (by kernel_rfl)) (done1_run s a) (cutOpen_mem hc hm) hv hq
    · cases ht
  · cases ht
end Go.Proofs.YthacfgaacleaeaaGreatDoor
namespace Go.Proofs.YthacfgaacleaeaaGreatDoor
open Go.IntKind (i64 u32)
open Go.RowKit Sym Sha Go.ChangeShapes Go.WideShapes Go.ChangeMaps
set_option maxRecDepth 100000 in
theorem newC_run (s:ByteArray):runF Tryz.prog (onlyS Tryz.prog noS) noL Tryz.f76 (Tryz.f76.body.getD .skip) [.v (.string s)] [] = .leaf (.ptr 0 0,[.own [.v (.string s),.v (.int .i64 0),.v (.int .i64 0)]]):=by kernel_rfl
def fNewC:List SV→List Blk→Option (T (SV×List Blk))
  | [s0],[]=>match openS s0 with
    | .v (.string s)=>some (.leaf (.ptr 0 0,ownC s 0 0))
    | _=>none
  | _,_=>none
theorem own_same {w0:World} {bs:List Nat} {B:List Value} {w:World} {l l':List SV} (h:SV.tos B l=SV.tos B l') (hm:Mem w0 bs [.own l] B w):Mem w0 bs [.own l'] B w:=by
  obtain ⟨u,hu⟩:=hm.sat.getB (k:=0) rfl
  obtain ⟨b,vs,rfl,h2,h3⟩:=hm.sat.blk 0 _ u rfl hu
  exact hm.upd (k:=0) (x:=.own l) (y:=.own l') rfl rfl hu (grown_self w _) rfl ⟨b,vs,rfl,by rw [← h];exact h2,h3⟩
set_option maxRecDepth 100000 in
theorem fNewC_ok:EntryOk Tryz.prog 76 fNewC:=by
  intro ss H t ht bs B w vs hm hv Qs hq
  unfold fNewC at ht
  split at ht
  · rename_i s0
    split at ht
    · rename_i s hs
      simp only [Option.some.injEq] at ht
      subst ht
      have hv':SV.tos B [.v (.string s)]=some vs:=by
        rw [← hv];simp only [SV.tos];rw [← openS_to s0,hs]
      have key:=inl_ok (onlyS_ok noS_ok) follows Tryz.func76 (by kernel_rfl) (by kernel_rfl) (noloops (by kernel_rfl)) [.v (.string s)] [] _ rfl bs B w vs hm hv' (fun r=>r=(.ptr 0 0,[.own [.v (.string s),.v (.int .i64 0),.v (.int .i64 0)]])) (by rw [newC_run];exact rfl)
      refine key.mono ?_
      rintro e w' ⟨s1,H1,B1,x,hr,hp,he,hx,hm'⟩
      simp only [Prod.mk.injEq] at hr
      obtain ⟨rfl,rfl⟩:=hr
      exact ⟨_,_,B1,x,hq,hp,he,hx,own_same (l:=[.v (.string s),.v (.int .i64 0),.v (.int .i64 0)]) rfl hm'⟩
    · cases ht
  · cases ht
def FCutC:LTab:=addT 76 fNewC <| addT 93 fNumC <| addT 94 fBytesC <| addT 95 fDoneC noF
theorem FCutC_ok:LOk Tryz.prog FCutC :=
  addT_ok (addT_ok (addT_ok (addT_ok noF_ok (by kernel_rfl) fDoneC_ok) (by kernel_rfl) fBytesC_ok) (by kernel_rfl) fNumC_ok) (by kernel_rfl) fNewC_ok
end Go.Proofs.YthacfgaacleaeaaGreatDoor
namespace Go.Proofs.YthacfgaacleaeaaGreatDoor
open Go.IntKind (i64 u32)
open Go.RowKit Sym
structure Mp where
  kind:Int
  addr:Int
  prio:Int
  num:Int
  token:Int
  nonce:Int
  bytes:ByteArray
def Mp.none:Mp:=⟨0,0,0,0,0,0,⟨⟨[]⟩⟩⟩
def Mp.l (m:Mp):List Value:=[.int .i64 m.kind,.int .i64 m.addr,.int .i64 m.prio,.int .i64 m.num,.int .i64 m.token,.int .i64 m.nonce,.string m.bytes]
def Mp.v (m:Mp):Value:=.agg ⟨m.l⟩
def lenM (t:Int) (z:Nat):Nat :=
  if t=0 then 37 else if t=1 then 10 else if t=3 then (if 17≤z then 17 else 9) else if t=4 then 7 else if t=5 then 33 else if t=6 then 3
  else if t=7 then 6 else if t=8 then 6 else if t=9 then 7 else if t=10 then 5 else if t=11 then 2 else 0
def sayM (t:Int) (s:ByteArray):Mp :=
  if t=0 then ⟨0,0,0,valU (s.extract 1 5),0,0,s.extract 5 37⟩
  else if t=1 then ⟨1,valU (s.extract 1 2),0,0,valU (s.extract 2 6),valU (s.extract 6 10),⟨⟨[]⟩⟩⟩
  else if t=3 then (if 17≤s.size then ⟨3,0,0,0,0,0,s.extract 1 17⟩ else ⟨3,0,0,0,0,0,s.extract 1 9⟩)
  else if t=4 then ⟨4,0,0,valU (s.extract 1 7),0,0,⟨⟨[]⟩⟩⟩
  else if t=5 then ⟨5,0,0,0,0,0,s.extract 1 33⟩
  else if t=6 then ⟨6,0,0,valU (s.extract 1 3),0,0,⟨⟨[]⟩⟩⟩
  else if t=9 then ⟨9,valU (s.extract 1 2),valU (s.extract 2 3),valU (s.extract 3 7),0,0,⟨⟨[]⟩⟩⟩
  else if t=10 then ⟨10,0,0,valU (s.extract 1 5),0,0,⟨⟨[]⟩⟩⟩
  else if t=11 then ⟨11,0,0,valU (s.extract 1 2),0,0,⟨⟨[]⟩⟩⟩
  else ⟨t,valU (s.extract 1 2),0,valU (s.extract 2 6),0,0,⟨⟨[]⟩⟩⟩
def kindM (s:ByteArray):Int:=valU (s.extract 0 1)
def errM (k:Int) (s:ByteArray):Int :=
  if k ≠ 46 then 7 else if s.size=0 then 1 else if lenM (kindM s) s.size=0 then 7 else if s.size < lenM (kindM s) s.size then 1 else if lenM (kindM s) s.size < s.size then 2 else 0
def getM (k:Int) (s:ByteArray):Mp:=if errM k s=0 then sayM (kindM s) s else Mp.none
end Go.Proofs.YthacfgaacleaeaaGreatDoor
namespace Go.Proofs.YthacfgaacleaeaaGreatDoor
open Go.IntKind (i64 u32)
open Go.RowKit Go.ChangeShapes Go.WideShapes Go.Deep
def IsRows (W:World) (n:Nat) (v:Value) (len:Nat) (f:Nat→Nat→Value):Prop :=
  (v = .slice none 0 0∧len=0) ∨ ∃ (a:Addr) (cap:Nat),v = .slice (some a) len cap∧len≤cap∧cap≤maxLen ∧
    ∀ i,i < len→a.spot=none∧a.block < W.heap.size∧∀ j,j < n→W.cell? ⟨a.block,a.off+i * n+j,none⟩=some (f i j)
theorem open_rows_of {H:Type} {enc:TypeId×Value→H} {P:Program} {W:World} {base:Nat} {t e:TypeId} {v:Value} {d:DataW H} {p:List MemPlace} {sp:Nat→Bool} (n:Nat) (hn:P.cellsOf e=n) (hn0:0 < n) (ht:P.underlying t=some (.slice e))
    (hv:∃ a len cap,v = .slice a len cap) (h:DataW.Trod enc P W base sp true t v d p) :
    ∃ (len:Nat) (f:Nat→Nat→Value),IsRows W n v len f∧len≤maxLen∧∀ i,i < len→∃ fuel x,DataW.trod enc P W base sp true fuel e ((List.range n).map (f i))=some x:=by
  obtain ⟨a0,len0,cap0,rfl⟩:=hv
  obtain ⟨fuel,hf⟩:=h
  rcases open_slice ht hf with ⟨h0,_⟩ | ⟨a,len,cap,m,k,D,Pl,h0,hb,hl,hm,hmm,_,hi⟩
  · simp [Value.cells] at h0
    obtain ⟨rfl,rfl,rfl⟩:=h0
    exact ⟨0,fun _ _=>undef,.inl ⟨rfl,rfl⟩,Nat.zero_le _,fun i hi=>absurd hi (Nat.not_lt_zero _)⟩
  · simp [Value.cells] at h0
    obtain ⟨rfl,rfl,rfl⟩:=h0
    have hlm:len0≤m:=by rw [hmm];split <;> omega
    rw [hn] at hi
    have hrow:∀ i,i < len0→∃ cs':List Value,cs'.length=n∧(∀ j,j < n→W.cell? (a.add (i * n+j))=cs'[j]?)∧DataW.trod enc P W base sp true k e cs'=some (D i,Pl i):=by
      intro i hlt
      obtain ⟨cs',hc,htr⟩:=hi i (by omega)
      obtain ⟨_,hcl,hat⟩:=World.cells?_some hc
      exact ⟨cs',hcl,fun j hj=>by rw [← add_add];exact hat j hj,htr⟩
    refine ⟨len0,fun i j=>(W.cell? (a.add (i * n+j))).getD undef,.inr ⟨a,cap0,rfl,hl,hm,fun i hlt=>?_⟩,by omega,fun i hlt=>?_⟩
    · obtain ⟨cs',hcl,hat,_⟩:=hrow i hlt
      have hs:∀ j,j < n→∃ u,W.cell? (a.add (i * n+j))=some u:=fun j hj=>⟨_,(hat j hj).trans (List.getElem?_eq_getElem (by omega))⟩
      have hsp:a.spot=none:=by
        obtain ⟨c0,hcl0,hat0,_⟩:=hrow 0 (by omega)
        have h1:=World.cell?_spot ((hat0 0 hn0).trans (List.getElem?_eq_getElem (by omega)))
        simpa [Addr.add] using h1
      have he:∀ j,a.add (i * n+j)=⟨a.block,a.off+i * n+j,none⟩:=by
        intro j
        obtain ⟨bb,oo,ss⟩:=a
        simp only at hsp
        subst hsp
        unfold Addr.add
        by_cases h0:i * n+j=0 <;> simp [h0,Nat.add_assoc]
        omega
      refine ⟨hsp,?_,fun j hj=>?_⟩
      · obtain ⟨u,hu⟩:=hs 0 hn0
        rw [he] at hu
        exact lt_of_cell (p:=⟨a.block,a.off+i * n+0,none⟩) hu
      · obtain ⟨u,hu⟩:=hs j hj
        show W.cell? _=some ((W.cell? (a.add (i * n+j))).getD undef)
        rw [← he,hu];rfl
    · obtain ⟨cs',hcl,hat,htr⟩:=hrow i hlt
      refine ⟨k,(D i,Pl i),?_⟩
      rw [← htr]
      congr 1
      apply List.ext_getElem?
      intro j
      by_cases hj:j < n
      · simp [hj,hat j hj,hcl]
      · simp [hj,hcl]
end Go.Proofs.YthacfgaacleaeaaGreatDoor
namespace Go.Proofs.YthacfgaacleaeaaGreatDoor
open Go.IntKind (i64 u32)
open Go.RowKit Sym Go.ChangeShapes Go.WideShapes Go.Deep
theorem row_of {W:World} {n len:Nat} {v:Value} {f:Nat→Nat→Value} (h:IsRows W n v len f) (B:List Value):BlkSat B W v (.row len n f):=by
  rcases h with ⟨rfl,rfl⟩ | ⟨a,cap,rfl,h1,h2,h3⟩
  · exact ⟨none,0,rfl,Nat.le_refl _,Nat.zero_le _,fun i j hi=>absurd hi (Nat.not_lt_zero _)⟩
  · refine ⟨some a,cap,rfl,h1,h2,fun i j hi hj=>⟨a,rfl,?_⟩⟩
    obtain ⟨g1,g2,g3⟩:=h3 i hi
    obtain ⟨bb,oo,ss⟩:=a
    simp only at g1
    subst g1
    have hg:=g3 j hj
    have hg:W.cell? ⟨bb,oo+i * n+j,none⟩=some (f i j):=hg
    rw [Nat.add_assoc] at hg
    rw [← hg]
    unfold Addr.add
    by_cases h0:i * n+j=0
    · rw [if_pos h0,h0];rfl
    · rw [if_neg h0]
theorem row_congr {B:List Value} {w:World} {u:Value} {n sz:Nat} {f g:Nat→Nat→Value} (h:BlkSat B w u (.row n sz f)) (e:∀ i j,i < n→j < sz→f i j=g i j):BlkSat B w u (.row n sz g):=by
  obtain ⟨p,cap,h1,h2,h3,h4⟩:=h
  exact ⟨p,cap,h1,h2,h3,fun i j hi hj=>by rw [← e i j hi hj];exact h4 i j hi hj⟩
theorem mem_row {w:World} {u:Value} {n sz:Nat} {f:Nat→Nat→Value} (h:BlkSat [u] w u (.row n sz f)):Mem w [] [.row n sz f] [u] w:=by
  refine ⟨⟨rfl,fun k x v h1 h2=>?_,fun k j b h1 h2=>?_,fun k j b h1 h2=>?_⟩,.refl _ _,fun k b h1=>?_⟩
  · cases k with
    | zero=>simp only [List.getElem?_cons_zero,Option.some.injEq] at h1 h2;subst h1;subst h2;exact h
    | succ k=>simp at h1
  all_goals
    obtain ⟨x,v,g1,g2,g3,g4⟩:=h1
    cases k with
    | zero=>simp only [List.getElem?_cons_zero,Option.some.injEq] at g1;subst g1;cases g2
    | succ k=>simp at g1
theorem mem_row_congr {w0 w:World} {bs:List Nat} {H:List Blk} {B:List Value} {k n sz:Nat} {f g:Nat→Nat→Value} (h:Mem w0 bs H B w) (hk:H[k]?=some (.row n sz f)) (e:∀ i j,i < n→j < sz→f i j=g i j):Mem w0 bs (H.set k (.row n sz g)) B w:=by
  have hkl:k < H.length:=(List.getElem?_eq_some_iff.1 hk).1
  have ex:∀ j b,ExBlk (H.set k (.row n sz g)) B j b→ExBlk H B j b:=by
    rintro j b ⟨x,u,h1,h2,h3,h4⟩
    by_cases ej:k=j
    · subst ej
      rw [List.getElem?_set_self hkl] at h1
      simp only [Option.some.injEq] at h1
      subst h1;cases h2
    · rw [List.getElem?_set_ne ej] at h1
      exact ⟨x,u,h1,h2,h3,h4⟩
  have rd:∀ j b,RdBlk (H.set k (.row n sz g)) B j b→RdBlk H B j b:=by
    rintro j b ⟨m,z,f',u,h1,h2,h3,h4,h5⟩
    by_cases ej:k=j
    · subst ej
      rw [List.getElem?_set_self hkl] at h1
      simp only [Option.some.injEq,Blk.row.injEq] at h1
      obtain ⟨rfl,rfl,rfl⟩:=h1
      exact ⟨_,_,f,u,hk,h2,h3,h4,h5⟩
    · rw [List.getElem?_set_ne ej] at h1
      exact ⟨m,z,f',u,h1,h2,h3,h4,h5⟩
  refine ⟨⟨by rw [List.length_set];exact h.sat.len,fun j x u h1 h2=>?_,fun i j b h1 h2=>h.sat.sep i j b (ex _ _ h1) (ex _ _ h2),fun i j b h1 h2=>h.sat.far i j b (ex _ _ h1) (rd _ _ h2)⟩,h.keeps,fun j b h1=>h.good j b (ex _ _ h1)⟩
  by_cases ej:k=j
  · subst ej
    rw [List.getElem?_set_self hkl] at h1
    simp only [Option.some.injEq] at h1
    subst h1
    exact row_congr (h.sat.blk k _ u hk h2) e
  · rw [List.getElem?_set_ne ej] at h1
    exact h.sat.blk j x u h1 h2
end Go.Proofs.YthacfgaacleaeaaGreatDoor
namespace Go.Proofs.YthacfgaacleaeaaGreatDoor
open Go.IntKind (i64 u32)
open Go.RowKit Sym
def LUn (P:Program) (C:Cfg) (fn:Func) (n:Nat):Nat→St→Option (T (Ex×St)):=addL 0 (unrollB (runC P C noL fn.ntmps (loopAt fn 0)) 0 n) noL
end Go.Proofs.YthacfgaacleaeaaGreatDoor
