import Derived.Test.YtdmcfjkgopmlgaaGreatDoorR1
import Derived.Scope
set_option linter.unusedVariables false
set_option linter.unusedSimpArgs false
set_option linter.unusedSectionVars false
namespace Go.Proofs.YtdmcfjkgopmlgaaGreatDoor.Ev
open Go Go.RowKit
section
variable {P:Program} {w0:Base}
def ZE(P:Program)(w0:Base)(call:zU):Prop:=
 ∀(f:Nat) (args:List FV) (h:LH) (v:FV) (h':LH) (ρ:Nat→Ph) (w:World),call f args h=some (v,h')→Rel P w0 ρ h w→(∀u∈args,wfV ρ h.length u)→
  (∃ fn, P.funcs[f]? = some fn ∧ fn.name ≠ "runtime.NumGoroutine" ∧ fn.body.isSome = true) ∧
  Calls P f (args.map (cv ρ)).toArray w fun e w'=>∃ρ',e= .returned (cv ρ' v)∧Rel P w0 ρ' h' w'∧Ext h.length ρ ρ'∧h.length≤h'.length∧wfV ρ' h'.length v
section
variable {ρ:Nat→Ph} {h:LH} {w:World} {N:Nat} {fr:Fr} {a:Act} {Q:Exit→Act→World→Prop}
theorem           Zy {f : Nat} {args : Array Value} (hf : ∃ fn, P.funcs[f]? = some fn ∧ fn.name ≠ "runtime.NumGoroutine" ∧ fn.body.isSome = true) : (callFunc f args).run P w = .ok (.enter f args) w := by
 obtain⟨fn,h1,h2,h3⟩:=hf;have h4:fn.body.isNone=false:=by
  cases hb:fn.body
  ·rw[hb] at h3;cases h3
  ·rfl
 have hn : (fn.name == "runtime.NumGoroutine") = false := by simpa using h2
 simp[callFunc,h1,h2,hn,h4,-Option.isNone_eq_false_iff,-Option.isNone_iff_eq_none]
theorem zse{v:FV}{n:Nat}(hv:wf1 ρ n v):c1 ρ v=cv ρ v:=(zbs hv).symm
theorem ziW(R:Rel P w0 ρ h w)(hF:FrR ρ h.length N fr a){o:Oper}{e:EO}(hc:zad P o.type o.op=some e)(hi:zbp o.op=true){f:Nat}{args:List FV}(he:jU fr h e=some (f,args)):
 (∀ u ∈ args, wfV ρ h.length u) ∧ ((∃ fn, P.funcs[f]? = some fn ∧ fn.name ≠ "runtime.NumGoroutine" ∧ fn.body.isSome = true) →
 (execOp a.eval o).run P w= .ok (.enter f (args.map (cv ρ)).toArray) w):=by
 cases hop:o.op
 case call c=>
  rw[hop] at hc;unfold execOp;rw[hop];simp only[zad,zc7] at hc;split at hc
  ·rename_i b hb;rw[hop] at hi;simp[zbp,hb] at hi
  ·rename_i f' hcal;split at hc
   ·obtain⟨ys,hys,rfl⟩:=zuI.1 hc;simp only[jU] at he;obtain⟨vs,hvs,hq⟩:=zuI.1 he;obtain⟨rfl,rfl⟩:=zuZ hq;obtain⟨e1,e2⟩:=qX hF hys hvs;refine⟨e2,fun hf=> ?_⟩;have ea:c.args.map a.eval=(vs.map (cv ρ)).toArray:=by apply zxl;simpa using e1
    simp only[resolve,hcal,Act.eval,Deferred.ofValue,pure_bind,invoke];have:c.args.map (fun x=>a.eval x)=(vs.map (cv ρ)).toArray:=ea;have hsimp:(#[]++Array.map a.eval c.args)++ #[]=(vs.map (cv ρ)).toArray:=by simp[ea]
    rw[←hsimp];simp only[hsimp]
    first
     |exact Zy hf
     |(rw[show(#[]++Array.map a.eval c.args++ #[]:Array Value)=(vs.map (cv ρ)).toArray from hsimp];exact Zy hf)
   ·cases hc
  ·rename_i t hcal;obtain⟨ys,hys,rfl⟩:=zuI.1 hc;simp only[jU] at he;split at he
   ·rename_i f' vs hf' hvs;obtain⟨rfl,rfl⟩:=zuZ (zuG he);obtain⟨e1,e2⟩:=qX hF hys hvs;obtain⟨e3,_⟩:=zh (x:= .tmp t) hF rfl hf';refine⟨e2,fun hf=> ?_⟩;have ea:c.args.map a.eval=(vs.map (cv ρ)).toArray:=by apply zxl;simpa using e1
    simp only[resolve,hcal,e3,c0,Deferred.ofValue,pure_bind,invoke];rw[show(#[]++Array.map a.eval c.args++ #[]:Array Value)=(vs.map (cv ρ)).toArray by simp[ea]];exact Zy hf
   ·rename_i i vs hi' hvs;split at he
    ·rename_i f' first caps hob
     obtain⟨rfl,rfl⟩:=zuZ (zuG he);obtain⟨e1,e2⟩:=qX hF hys hvs;obtain⟨e3,_⟩:=zh (x:= .tmp t) hF rfl hi';obtain⟨q1,q2,q3⟩:=R.obj i _ hob;refine⟨fun u hu=> ?_,fun hf=> ?_⟩
     ·rcases zuY.1 hu with hu|hu
      ·rcases zuY.1 hu with hu|hu
       ·exact Jk (q2 u hu)
       ·exact e2 u hu
      ·exact Jk (q3 u hu)
     ·have ea:c.args.map a.eval=(vs.map (cv ρ)).toArray:=by apply zxl;simpa using e1
      have e4:a.eval (.tmp t)= .func (.func f') (first.map (c1 ρ)).toArray (caps.map (c1 ρ)).toArray:=by rw[e3];exact q1
      simp only[resolve,hcal,e4,Deferred.ofValue,pure_bind,invoke];rw[show((first.map (c1 ρ)).toArray++Array.map a.eval c.args++(caps.map (c1 ρ)).toArray:Array Value)=((first++vs++caps).map (cv ρ)).toArray by
       rw[ea,zvp,zvp,zvo fun u hu=>zse (q2 u hu),zvo fun u hu=>zse (q3 u hu)];simp]
      exact Zy hf
    ·cases he
   ·cases he
  ·cases hc
 all_goals
  rw[hop] at hi;cases hi
theorem zgS{call:zU}(hcall:ZE P w0 call)(R:Rel P w0 ρ h w)(hF:FrR ρ h.length N fr a){o:Oper}{e:EO}(hc:zad P o.type o.op=some e)(hn:jA e=true→zbp o.op=true){v:FV}{h':LH}(he:zK call fr h e=some (v,h'))
 {K:Act→World→Prop} (hK:∀ρ' w',Rel P w0 ρ' h' w'→Ext h.length ρ ρ'→h.length≤h'.length→wfV ρ' h'.length v→K (a.put o.dst (cv ρ' v)) w'):o.wp P a w K Q:=by
 unfold zK at he;split at he
 ·rename_i hi;split at he
  ·rename_i f args hce;obtain⟨hwf,hrun⟩:=ziW R hF hc (hn hi) hce;obtain⟨hf,hcalls⟩:=hcall f args h v h' ρ w he R hwf;unfold Oper.wp;rw[hrun hf,Oper.upon_enter];refine Calls.mono hcalls fun e w' hq=> ?_;obtain⟨ρ',rfl,q1,q2,q3,q4⟩:=hq;exact hK ρ' w' q1 q2 q3 q4
  ·cases he
 ·obtain⟨r,ρ',w',hr,hrv,q1,q2,q3,q4⟩:=ztQ R hF hc he;unfold Oper.wp;rw[hr];rcases hrv with rfl|⟨rfl,hu⟩
  ·rw[Oper.upon_value];exact hK ρ' w' q1 q2 q3 q4
  ·rw[Oper.upon_skip,←hu];exact hK ρ' w' q1 q2 q3 q4
theorem zaC{ops:Array Oper}{o:Oper}{g:EG}(hc:zeH P N ops o=some g):
 (∀t,o.dst=some t→t<N)∧g.dst=o.dst∧(zad P o.type o.op=some g.op∧(jA g.op=true→zbp o.op=true))∧((o.guard=none∧g.guard=none)∨∃j b s,o.guard=some (j,b)∧(ops[j]?).bind (·.dst)=some s∧g.guard=some (s,b)):=by
 unfold zeH at hc;split at hc
 ·rename_i hd;have hd':∀t,o.dst=some t→t<N:=by
   intro t ht;rw[ht] at hd;exact of_decide_eq_true hd
  split at hc
  ·rename_i e he;split at hc
   ·cases hc
   ·rename_i hcall;have hcall':jA e=true→zbp o.op=true:=by
     intro h1;rw[h1] at hcall;simpa using hcall
    split at hc
    ·rename_i hg;obtain rfl:=zuG hc;exact⟨hd',rfl,⟨he,hcall'⟩,.inl ⟨hg,rfl⟩⟩
    ·rename_i j b hg;split at hc
     ·rename_i s hs;obtain rfl:=zuG hc;exact⟨hd',rfl,⟨he,hcall'⟩,.inr ⟨j,b,s,hg,hs,rfl⟩⟩
     ·cases hc
  ·cases hc
 ·cases hc
theorem zbk{n:Nat}(hF:FrR ρ n N fr a){ops:Array Oper}{o:Oper}{g:EG}(hc:zeH P N ops o=some g){b:Bool}(he:jt fr g.guard=some b):Region.wanted o (yielded ops a.tmps)=b:=by
 obtain⟨_,_,_,hg⟩:=zaC hc;unfold Region.wanted;rcases hg with⟨h1,h2⟩|⟨j,c,s,h1,h2,h3⟩
 ·rw[h2] at he;rw[h1];exact zuG he
 ·rw[h3] at he;rw[h1];simp only[jt] at he;have key:∀v,yq fr s=some v→a.tmps[s]? =some (cv ρ v):=by
   intro v hv;obtain⟨q1,q2,q3⟩:=hF.get s v hv;have hs:s<a.tmps.size:=by rw[hF.size];exact q1
   rw[zvy hs];rw[zvF,zvy hs] at q2;exact congrArg some q2
  split at he
  ·rename_i t ht;obtain rfl:=zuG he;have:=key _ ht;simp only[yielded,h2,zwr,this,cv,c0];cases t<;>cases c<;>rfl
  ·rename_i ht;obtain rfl:=zuG he;have:=key _ ht;simp only[yielded,h2,zwr,this,cv];cases c<;>rfl
  ·cases he
theorem zbP{call:zU}(hcall:ZE P w0 call){ops:Array Oper}:∀(l:List Oper) (gs:List EG) (fr:Fr) (h:LH) (fr':Fr) (h':LH) (ρ:Nat→Ph) (a:Act) (w:World),Zh P N ops l=some gs→jY call gs fr h=some (fr',h')→Rel P w0 ρ h w→FrR ρ h.length N fr a→
 (∀ρ' a' w',Rel P w0 ρ' h' w'→FrR ρ' h'.length N fr' a'→Ext h.length ρ ρ'→h.length≤h'.length→Q .normal a' w')→wpList P ops Q l a w
 |[],gs,fr,h,fr',h',ρ,a,w,hc,he,R,hF,hQ=>by
  simp only[Zh,zuE] at hc;subst hc;simp only[jY,zuE,zuH] at he;obtain⟨rfl,rfl⟩:=he;exact hQ ρ a w R hF (Ext.refl _ _) (zuL _)
 |o::l,gs,fr,h,fr',h',ρ,a,w,hc,he,R,hF,hQ=>by
  simp only[Zh] at hc;split at hc
  ·rename_i g hg;obtain⟨gs',hgs,rfl⟩:=zuI.1 hc;obtain⟨d1,d2,d3,d4⟩:=zaC hg;simp only[jY] at he;unfold wpList;split at he
   ·rename_i hw;rw[zbk hF hg hw,zuO rfl];split at he
    ·rename_i v h1 hs;refine .inl (zgS hcall R hF d3.1 d3.2 hs fun ρ1 w1 q1 q2 q3 q4=> ?_);rw[d2] at he;exact zbP hcall l gs' _ h1 fr' h' ρ1 _ w1 hgs he q1 ((hF.ext q2 q3).put d1 q4) (fun ρ2 a2 w2 r1 r2 r3 r4=>hQ ρ2 a2 w2 r1 r2 (q2.trans q3 r3) (by omega))
    ·cases he
   ·rename_i hw;rw[zbk hF hg hw,zuQ (by decide)];rw[d2] at he;have hu:(undef:Value)=cv ρ (.tup []):=rfl;rw[hu];exact zbP hcall l gs' _ h fr' h' ρ _ w hgs he R (hF.put d1 (v:= .tup []) (fun v hv=>by cases hv)) hQ
   ·cases he
  ·cases hc
end
end
end Go.Proofs.YtdmcfjkgopmlgaaGreatDoor.Ev
namespace Go.Proofs.YtdmcfjkgopmlgaaGreatDoor.Ev
open Go
theorem zm3{h h':LH}{t z y n:Nat}{x:SV}{new:List SV}{v:FV}(he:ZF h t z y x n new=some (v,h')):h.length≤h'.length:=by
 unfold ZF at he
 (repeat' split at he)<;>simp at he<;>(try obtain⟨_,rfl⟩:=he)<;>simp
theorem znj{h h':LH}{t z m:Nat}{x:SV}{v:FV}(he:zfS h t z x m=some (v,h')):h.length≤h'.length:=by
 unfold zfS at he
 (repeat' split at he)<;>simp at he<;>(try obtain⟨_,rfl⟩:=he)<;>simp
theorem zq1{fr:Fr}{h h':LH}{op:EO}{v:FV}(he:opE fr h op=some (v,h')):h.length≤h'.length:=by
 cases op<;>first
  |(simp only[opE] at he
    (repeat' split at he)<;>(try simp_all [zuI])<;>first|exact zm3 he|exact znj he|grind)
def YA(call:zU):Prop:=∀f args h v h',call f args h=some (v,h')→h.length≤h'.length
theorem zbS{call:zU}(g:YA call){fr:Fr}{h h':LH}{op:EO}{v:FV}(he:zK call fr h op=some (v,h')):h.length≤h'.length:=by
 unfold zK at he;split at he
 ·split at he
  ·exact g _ _ _ _ _ he
  ·cases he
 ·exact zq1 he
theorem Jh{call:zU}(g:YA call):∀(l:List EG) (fr:Fr) (h:LH) (tr:List (Option TE)) (fr':Fr) (h':LH),je call l fr h=some (tr,fr',h')→h.length≤h'.length
 |[],fr,h,tr,fr',h',he=>by
  simp only[je,zuE,zuH] at he;obtain⟨_,_,rfl⟩:=he;exact zuL _
 |x::l,fr,h,tr,fr',h',he=>by
  simp only[je] at he;split at he
  ·split at he
   ·rename_i v h1 hv;obtain⟨⟨tr1,fr1,h2⟩,h3,hq⟩:=zuI.1 he;simp only[zuH] at hq;obtain⟨rfl,rfl,rfl⟩:=hq;exact zvz (zbS g hv) (Jh g l _ _ _ _ _ h3)
   ·cases he
  ·obtain⟨⟨tr1,fr1,h2⟩,h3,hq⟩:=zuI.1 he;simp only[zuH] at hq;obtain⟨rfl,rfl,rfl⟩:=hq;exact Jh g l _ _ _ _ _ h3
  ·cases he
theorem zlB{call:zU}(g:YA call){l:List EG}{ps:List (Nat×Nat)}{fr fr':Fr}{h h':LH}(he:Zs call l ps fr h=some (fr',h')):h.length≤h'.length:=by
 unfold Zs at he;split at he
 ·rename_i tr fr1 h1 htr;split at he
  ·simp only[zuE,zuH] at he;obtain⟨rfl,rfl⟩:=he;exact Jh g _ _ _ _ _ _ htr
  ·cases he
 ·cases he
theorem zeY{body:Fr→LH→Out}(hb:∀fr h x fr' h',body fr h=some (x,fr',h')→h.length≤h'.length)(keep:List Nat):∀(n:Nat) (fr:Fr) (h:LH) (x:Ex) (fr':Fr) (h':LH),j7 body keep n fr h=some (x,fr',h')→h.length≤h'.length
 |0,_,_,_,_,_,he=>by cases he
 |n+1,fr,h,x,fr',h',he=>by
  simp only[j7] at he;split at he
  ·rename_i fr1 h1 h2;exact zvz (hb _ _ _ _ _ h2) (zeY hb keep n _ _ _ _ _ he)
  ·exact hb _ _ _ _ _ he
theorem zd3{call:zU}(g:YA call):∀(l:List EG) (fr:Fr) (h:LH) (fr':Fr) (h':LH),jY call l fr h=some (fr',h')→h.length≤h'.length
 |[],fr,h,fr',h',he=>by
  simp only[jY,zuE,zuH] at he;obtain⟨_,rfl⟩:=he;exact zuL _
 |x::l,fr,h,fr',h',he=>by
  simp only[jY] at he;split at he
  ·split at he
   ·rename_i v h1 hv;exact zvz (zbS g hv) (zd3 g l _ _ _ _ he)
   ·cases he
  ·exact zd3 g l _ _ _ _ he
  ·cases he
theorem zjU{at':Nat→Fr→LH→Out}(ha:∀l fr h x fr' h',at' l fr h=some (x,fr',h')→h.length≤h'.length)(has:Nat→Bool):∀(n:Nat) (x:Ex) (fr:Fr) (h:LH) (x':Ex) (fr':Fr) (h':LH),ye at' has n (some (x,fr,h))=some (x',fr',h')→h.length≤h'.length:=by
 intro n
 induction n with
 |zero=>
  intro x fr h x' fr' h' he;unfold ye at he;split at he
  ·split at he
   ·cases he
   ·rename_i e _;simp only[zuE,zuH] at e he;obtain⟨_,_,rfl⟩:=e;obtain⟨_,_,rfl⟩:=he;exact zuL _
  ·simp only[zuE,zuH] at he;obtain⟨_,_,rfl⟩:=he;exact zuL _
 |succ n ih=>
  intro x fr h x' fr' h' he;unfold ye at he;split at he
  ·rename_i l fr0 h0 e;simp only[zuE,zuH] at e;obtain⟨_,_,rfl⟩:=e;split at he
   ·cases hr:at' l fr0 h with
    |none=>rw[hr] at he;unfold ye at he;cases he
    |some r=>
     obtain⟨x1,fr1,h1⟩:=r;rw[hr] at he;exact zvz (ha _ _ _ _ _ _ hr) (ih _ _ _ _ _ _ he)
   ·simp only[zuE,zuH] at he;obtain⟨_,_,rfl⟩:=he;exact zuL _
  ·simp only[zuE,zuH] at he;obtain⟨_,_,rfl⟩:=he;exact zuL _
theorem ziZ{call:zU}(g:YA call)(n:Nat):∀(c:EC),(∀(fr:Fr) (h:LH) (x:Ex) (fr':Fr) (h':LH),zp call n c fr h=some (x,fr',h')→h.length≤h'.length)∧∀(l:Nat) (fr:Fr) (h:LH) (x:Ex) (fr':Fr) (h':LH),zM call n c l fr h=some (x,fr',h')→h.length≤h'.length:=by
 intro c
 induction c with
 |skip=>refine⟨?_,fun l fr h x fr' h' he=>by simp only[zM] at he;cases he⟩;intro fr h x fr' h' he;simp only[zp,zuE,zuH] at he;obtain⟨_,_,rfl⟩:=he;exact zuL _
 |label l'=>
  refine⟨?_,fun l fr h x fr' h' he=> ?_⟩
  ·intro fr h x fr' h' he;simp only[zp,zuE,zuH] at he;obtain⟨_,_,rfl⟩:=he;exact zuL _
  ·simp only[zM] at he;split at he
   ·simp only[zuE,zuH] at he;obtain⟨_,_,rfl⟩:=he;exact zuL _
   ·cases he
 |ops l keep=>
  refine⟨?_,fun l fr h x fr' h' he=>by simp only[zM] at he;cases he⟩;intro fr h x fr' h' he;simp only[zp] at he;obtain⟨⟨f1,h1⟩,h2,e⟩:=zuI.1 he;simp only[zuH] at e;obtain⟨_,_,rfl⟩:=e;exact zd3 g _ _ _ _ _ h2
 |draw l ps keep=>
  refine⟨?_,fun l fr h x fr' h' he=>by simp only[zM] at he;cases he⟩;intro fr h x fr' h' he;simp only[zp] at he;obtain⟨⟨f1,h1⟩,h2,e⟩:=zuI.1 he;simp only[zuH] at e;obtain⟨_,_,rfl⟩:=e;exact zlB g h2
 |seq a b iha ihb=>
  refine⟨fun fr h x fr' h' he=> ?_,fun l fr h x fr' h' he=> ?_⟩
  ·simp only[zp] at he;split at he
   ·rename_i f1 h1 h2;exact zvz (iha.1 _ _ _ _ _ h2) (ihb.1 _ _ _ _ _ he)
   ·exact iha.1 _ _ _ _ _ he
  ·simp only[zM] at he;split at he
   ·split at he
    ·rename_i f1 h1 h2;exact zvz (iha.2 _ _ _ _ _ _ h2) (ihb.1 _ _ _ _ _ he)
    ·exact iha.2 _ _ _ _ _ _ he
   ·exact ihb.2 _ _ _ _ _ _ he
 |cond c a b iha ihb=>
  refine⟨?_,fun l fr h x fr' h' he=>by simp only[zM] at he;cases he⟩;intro fr h x fr' h' he;simp only[zp] at he;split at he
  ·split at he
   ·exact iha.1 _ _ _ _ _ he
   ·exact ihb.1 _ _ _ _ _ he
  ·cases he
 |block id b ih=>
  refine⟨?_,fun l fr h x fr' h' he=>by simp only[zM] at he;cases he⟩;intro fr h x fr' h' he;simp only[zp] at he;split at he
  ·rename_i id' f1 h1 h2;have:=ih.1 _ _ _ _ _ h2;split at he<;>(simp only[zuE,zuH] at he;obtain⟨_,_,rfl⟩:=he;exact this)
  ·exact ih.1 _ _ _ _ _ he
 |loop keep b ih=>
  refine⟨?_,fun l fr h x fr' h' he=>by simp only[zM] at he;cases he⟩;intro fr h x fr' h' he;simp only[zp] at he;exact zeY ih.1 keep n _ _ _ _ _ he
 |exit id keep=>refine⟨?_,fun l fr h x fr' h' he=>by simp only[zM] at he;cases he⟩;intro fr h x fr' h' he;simp only[zp,zuE,zuH] at he;obtain⟨_,_,rfl⟩:=he;exact zuL _
 |ret keep=>refine⟨?_,fun l fr h x fr' h' he=>by simp only[zM] at he;cases he⟩;intro fr h x fr' h' he;simp only[zp,zuE,zuH] at he;obtain⟨_,_,rfl⟩:=he;exact zuL _
 |goto l keep=>refine⟨?_,fun l fr h x fr' h' he=>by simp only[zM] at he;cases he⟩;intro fr h x fr' h' he;simp only[zp,zuE,zuH] at he;obtain⟨_,_,rfl⟩:=he;exact zuL _
 |scope b ih=>
  refine⟨?_,fun l fr h x fr' h' he=>by simp only[zM] at he;cases he⟩;intro fr h x fr' h' he;simp only[zp] at he;cases hr:zp call n b fr h with
  |none=>rw[hr] at he;unfold ye at he;cases he
  |some r=>
   obtain⟨x1,fr1,h1⟩:=r;rw[hr] at he;exact zvz (ih.1 _ _ _ _ _ hr) (zjU ih.2 _ n _ _ _ _ _ _ he)
 |ext k m f=>
  refine⟨?_,fun l fr h x fr' h' he=>by simp only[zM] at he;cases he⟩;intro fr h x fr' h' he;simp only[zp,zlF] at he;split at he
  ·split at he
   ·split at he
    ·rename_i hl;simp only[zuE,zuH] at he;obtain⟨_,_,rfl⟩:=he;exact hl
    ·cases he
   ·cases he
  ·cases he
theorem zeG{call:zU}(g:YA call)(n:Nat)(c:EC)(fr:Fr)(h:LH)(x:Ex)(fr':Fr)(h':LH)(he:zp call n c fr h=some (x,fr',h')):h.length≤h'.length:=(ziZ g n c).1 fr h x fr' h' he
theorem ze8{l:Option (List FV)}{h h':LH}{v:FV}(he:qR l h=some (v,h')):h'=h:=by
 unfold qR at he;split at he
 ·split at he
  ·simp only[zuE,zuH] at he;exact he.2.symm
  ·cases he
 ·cases he
theorem ZG(C:Nat→Option EF):∀n,YA (jh C n)
 |0=>fun f args h v h' he=>by simp only[jh] at he;cases he
 |n+1=>fun f args h v h' he=>by
  simp only[jh] at he;split at he
  ·cases he
  ·split at he
   ·split at he
    ·rename_i f1 h1 h2;rw[ze8 he];exact zeG (ZG C n) n _ _ _ _ _ _ h2
    ·rename_i f1 h1 h2;rw[ze8 he];exact zeG (ZG C n) n _ _ _ _ _ _ h2
    ·cases he
   ·cases he
end Go.Proofs.YtdmcfjkgopmlgaaGreatDoor.Ev
namespace Go.Proofs.YtdmcfjkgopmlgaaGreatDoor.Ev
open Go Go.RowKit
section
variable {P:Program} {w0:Base}
theorem yd{S:Nat→Prop}:∀{l:List SV},nmL S l↔∀v∈l,nmS S v
 |[]=>by simp[nmL]
 |v::r=>by simp[nmL,yd (l:=r)]
theorem J9{S:Nat→Prop}:∀{l:List FV},zev S l↔∀v∈l,nmV S v
 |[]=>by simp[zev]
 |v::r=>by simp[zev,J9 (l:=r)]
theorem zdT{S T:Nat→Prop}(h:∀q,S q→T q){v:SV}(hv:nmS S v):nmS T v:=by
 cases v<;>first|exact trivial|exact h _ hv
theorem zhV{S T:Nat→Prop}(h:∀q,S q→T q){l:List SV}(hv:nmL S l):nmL T l:=
 yd.2 fun v hm=>zdT h (yd.1 hv v hm)
mutual
theorem jn{S T:Nat→Prop}(h:∀q,S q→T q):∀{v:FV},nmV S v→nmV T v
 | .s v,hv=>zdT h hv
 | .agg l,hv=>zhV h hv
 | .tup l,hv=>ze3 h hv
theorem ze3{S T:Nat→Prop}(h:∀q,S q→T q):∀{l:List FV},zev S l→zev T l
 |[],_=>trivial
 |v::r,hv=>⟨jn h hv.1,ze3 h hv.2⟩
end
theorem zeo{ρ:Nat→Ph}{n:Nat}{v:SV}(h:wf ρ n v):nmS (·<n) v:=by
 cases v<;>first|exact trivial|exact h|exact h.1
theorem zgZ{ρ:Nat→Ph}{n:Nat}{v:FV}(h:wf1 ρ n v):nmV (·<n) v:=by
 cases v with
 |s v=>exact zeo h
 |agg l=>exact yd.2 fun v hm=>zeo (h v hm)
 |tup l=>exact h.elim
theorem Qu{ρ:Nat→Ph}{n:Nat}{v:FV}(h:wfV ρ n v):nmV (·<n) v:=by
 cases v with
 |s v=>exact zeo h
 |agg l=>exact yd.2 fun v hm=>zeo (h v hm)
 |tup l=>exact J9.2 fun v hm=>zgZ (h v hm)
theorem zfv{ρ ρ':Nat→Ph}{n m:Nat}{v:SV}(h:wf ρ n v)(hm:nmS (·<m) v)(hn:nmS (fun q=>ρ' q=ρ q) v):wf ρ' m v∧c0 ρ' v=c0 ρ v:=by
 cases v<;>first
  |exact⟨trivial,rfl⟩
  |(have e:ρ' _=ρ _:=hn
    exact⟨hm,by simp only[c0];rw[e]⟩)
  |(have e:ρ' _=ρ _:=hn
    exact⟨⟨hm,by rw[e];exact h.2⟩,by simp only[c0];rw[e]⟩)
theorem zg0{ρ ρ':Nat→Ph}{n m:Nat}{v:FV}(h:wf1 ρ n v)(hm:nmV (·<m) v)(hn:nmV (fun q=>ρ' q=ρ q) v):wf1 ρ' m v∧c1 ρ' v=c1 ρ v:=by
 cases v with
 |s v=>exact zfv h hm hn
 |agg l=>
  have k:=fun v (hv:v∈l)=>zfv (h v hv) (yd.1 hm v hv) (yd.1 hn v hv);refine⟨fun v hv=>(k v hv).1,?_⟩;simp only[c1];rw[zvo fun v hv=>(k v hv).2]
 |tup l=>exact h.elim
theorem zj4{ρ ρ':Nat→Ph}{n m:Nat}{v:FV}(h:wfV ρ n v)(hm:nmV (·<m) v)(hn:nmV (fun q=>ρ' q=ρ q) v):wfV ρ' m v∧cv ρ' v=cv ρ v:=by
 cases v with
 |s v=>exact zfv h hm hn
 |agg l=>
  have k:=fun v (hv:v∈l)=>zfv (h v hv) (yd.1 hm v hv) (yd.1 hn v hv);refine⟨fun v hv=>(k v hv).1,?_⟩;simp only[cv];rw[zvo fun v hv=>(k v hv).2]
 |tup l=>
  have k:=fun v (hv:v∈l)=>zg0 (h v hv) (J9.1 hm v hv) (J9.1 hn v hv);refine⟨fun v hv=>(k v hv).1,?_⟩;simp only[cv];rw[zvo fun v hv=>(k v hv).2]
def nmO(S:Nat→Prop):LO→Prop
 | .own _ vs=>nmL S vs
 | .ro _ vs=>nmL S vs
 | .clo _ a b=>(∀v∈a,nmV S v)∧∀v∈b,nmV S v
 | .ifc _ v=>nmV S v
 | .map es=>∀x∈es,nmS S x.2
 |_=>True
theorem qi{S T:Nat→Prop}(h:∀q,S q→T q){o:LO}(ho:nmO S o):nmO T o:=by
 cases o<;>first
  |exact trivial
  |exact zhV h ho
  |exact jn h ho
  |exact⟨fun v hv=>jn h (ho.1 v hv),fun v hv=>jn h (ho.2 v hv)⟩
  |exact fun x hx=>zdT h (ho x hx)
theorem Q7.nm{B n:Nat}{ρ:Nat→Ph}{p:Ph}{w:World}{o:LO}(h:Q7 P B ρ n p w o):nmO (·<n) o:=by
 cases o with
 |own t vs=>exact yd.2 fun v hv=>zeo (h.2.2.2.2.2.2 v hv)
 |ro t vs=>exact yd.2 fun v hv=>zeo (h.2.2.2 v hv)
 |clo f a b=>exact⟨fun v hv=>zgZ (h.2.1 v hv),fun v hv=>zgZ (h.2.2 v hv)⟩
 |ifc t v=>exact zgZ h.2
 |map es=>exact fun x hx=>zeo (J8 (ρ:=ρ) (h.2.2.2 x hx).2)
 |_=>trivial
theorem Q7.re{B n m:Nat}{ρ ρ':Nat→Ph}{p:Ph}{w w':World}{o:LO}(h:Q7 P B ρ n p w o)(hm:nmO (·<m) o)(hn:nmO (fun q=>ρ' q=ρ q) o)(hs:w.heap.size≤w'.heap.size)
 (hc:(o.holds=true∨p.blk<B)→∀j v,w.cell? ⟨p.blk,j,none⟩=some v→w'.cell? ⟨p.blk,j,none⟩=some v) (hf:o.holds=true→∀j,w'.frozen? ⟨p.blk,j,none⟩=w.frozen? ⟨p.blk,j,none⟩) (hwh:o.whole=true→w'.heap[p.blk]? =w.heap[p.blk]?):
   Q7 P B ρ' m p w' o:=by
 cases o with
 |own t vs=>
  obtain⟨h1,h2,h3,h4,h5,h6,h7⟩:=h;have k:=fun v (hv:v∈vs)=>zfv (h7 v hv) (yd.1 hm v hv) (yd.1 hn v hv);refine⟨h1,by omega,h3,fun j hj=> ?_,fun j v hv=> ?_,h6,fun v hv=>(k v hv).1⟩
  ·obtain⟨q1,q2⟩:=h4 j hj;obtain⟨u,hu⟩:=zv3.1 q1;exact⟨by rw[hc (.inl rfl) _ u hu];rfl,by rw[hf rfl];exact q2⟩
  ·rw[zvo fun v hv=>(k v hv).2] at hv;exact hc (.inl rfl) _ _ (h5 j v hv)
 |ro t vs=>
  obtain⟨h1,h2,h3,h4⟩:=h;have k:=fun v (hv:v∈vs)=>zfv (h4 v hv) (yd.1 hm v hv) (yd.1 hn v hv);refine⟨h1,h2,fun j v hv=> ?_,fun v hv=>(k v hv).1⟩;rw[zvo fun v hv=>(k v hv).2] at hv;exact hc (.inr h1) _ _ (h3 j v hv)
 |dead=>trivial
 |clo f a b=>
  obtain⟨h1,h2,h3⟩:=h;have k1:=fun v (hv:v∈a)=>zg0 (h2 v hv) (hm.1 v hv) (hn.1 v hv);have k2:=fun v (hv:v∈b)=>zg0 (h3 v hv) (hm.2 v hv) (hn.2 v hv);refine⟨?_,fun v hv=>(k1 v hv).1,fun v hv=>(k2 v hv).1⟩;rw[h1,zvo fun v hv=>(k1 v hv).2,zvo fun v hv=>(k2 v hv).2]
 |ifc t v=>
  obtain⟨h1,h2⟩:=h;have k:=zg0 h2 hm hn;exact⟨by rw[h1,k.2],k.1⟩
 |map es=>
  obtain⟨h1,h2,⟨ms,h3,h4,h6⟩,h5⟩:=h;exact⟨h1,by omega,⟨ms,by rw[hwh rfl];exact h3,by rw[h4];exact(zoi h5).symm,h6⟩,h5⟩
 |iter s p=>
  obtain⟨h1,h2,h3,h4⟩:=h;exact⟨h1,by omega,h3,by rw[hwh rfl];exact h4⟩
theorem zdU{S:Nat→Prop}(h:∀q,S q)(v:SV):nmS S v:=by cases v<;>first|exact trivial|exact h _
theorem zhW{S:Nat→Prop}(h:∀q,S q)(l:List SV):nmL S l:=yd.2 fun v _=>zdU h v
mutual
theorem Qa{S:Nat→Prop}(h:∀q,S q):∀(v:FV),nmV S v
 | .s v=>zdU h v
 | .agg l=>zhW h l
 | .tup l=>ze4 h l
theorem ze4{S:Nat→Prop}(h:∀q,S q):∀(l:List FV),zev S l
 |[]=>trivial
 |v::r=>⟨Qa h v,ze4 h r⟩
end
theorem zhX{S:Nat→Prop}(h:∀q,S q)(o:LO):nmO S o:=by
 cases o<;>first
  |exact trivial
  |exact zhW h _
  |exact Qa h _
  |exact⟨fun v _=>Qa h v,fun v _=>Qa h v⟩
  |exact fun x _=>zdU h x.2
def Fk(w0:Base)(ρ:Nat→Ph)(n:Nat)(H:LH)(k:Nat):Prop:=w0.F k∨∃i o,n≤i∧H[i]? =some o∧o.holds=true∧k=(ρ i).blk
theorem Qq{H:LH}{x i:Nat}{o:LO}(h:(H.take x)[i]? =some o):i<x∧H[i]? =some o:=by
 rw[zvh] at h;split at h
 ·rename_i hl;exact⟨hl,h⟩
 ·cases h
theorem Rel.part{ρ:Nat→Ph}{H:LH}{w:World}(r:Rel P w0 ρ H w){x n:Nat}(hx:x≤n)(hl:x≤H.length)(hn:∀i o,i<x→H[i]? =some o→nmO (·<x) o):Rel P ⟨w,w0.B,Fk w0 ρ n H,w0.dr⟩ ρ (H.take x) w:=by
 have hlen:(H.take x).length=x:=by rw[zu0];omega
 refine⟨BelD.refl _ _ _,r.size,fun k hk=>⟨?_,rfl⟩,fun i o hi hh hk=> ?_,fun i o hi=> ?_,fun i j o o' hi hj hne k1 k2=>r.inj i j o o' (Qq hi).2 (Qq hj).2 hne k1 k2⟩
 ·rcases hk with hk|⟨i,o,h1,h2,h3,rfl⟩
  ·exact zvB (r.keep k hk).1 r.below.size
  ·have:=r.obj i o h2
   cases o<;>first
    |(cases h3;done)
    |exact this.2.1
 ·obtain⟨h1,h2⟩:=Qq hi;rcases hk with hk|⟨j,o',h3,h4,h5,h6⟩
  ·exact r.out i o h2 hh hk
  ·exact r.inj i j o o' h2 h4 (by omega) hh h5 h6
 ·obtain⟨h1,h2⟩:=Qq hi;rw[hlen];exact(r.obj i o h2).re (hn i o h1 h2) (zhX (fun _=>rfl) o) (zuL _) (fun _ _ _ hv=>hv) (fun _ _=>rfl) (fun _=>rfl)
theorem Rel.join{ρ ρ':Nat→Ph}{H h1:LH}{w w':World}(r:Rel P w0 ρ H w){n:Nat}(hl:h1.length=n)(hH:n≤H.length)(r':Rel P ⟨w,w0.B,Fk w0 ρ n H,w0.dr⟩ ρ' h1 w')
 (hn:∀i o,n≤i→H[i]? =some o→nmO (fun q=>(if q<n then ρ' q else ρ q)=ρ q) o):Rel P w0 (fun q=>if q<n then ρ' q else ρ q) (h1++H.drop n) w':=by
 have hlen:(h1++H.drop n).length=H.length:=by rw[zuM,zvQ,hl];omega
 have key:∀(i:Nat) (o:LO),(h1++H.drop n)[i]? =some o→(i<n∧h1[i]? =some o)∨(n≤i∧H[i]? =some o):=by
  intro i o hi;rcases zwk i n with hlt|hge
  ·rw[zuK (by omega)] at hi;exact .inl ⟨hlt,hi⟩
  ·rw[zuN (by omega),zvH,hl,show n+(i-n)=i by omega] at hi;exact .inr ⟨hge,hi⟩
 refine⟨r.below.trans r'.below,r.hB,fun k hk=> ?_,fun i o hi hh hk=> ?_,fun i o hi=> ?_,fun i j o o' hi hj hne k1 k2=> ?_⟩
 ·obtain⟨h2,h3⟩:=r.keep k hk;exact⟨h2,(r'.keep k (.inl hk)).2.trans h3⟩
 ·rcases key i o hi with⟨hlt,hi⟩|⟨hge,hi⟩
  ·simp only[zuO hlt] at hk;exact r'.out i o hi hh (.inl hk)
  ·simp only[zuQ (show¬i<n by omega)] at hk;exact r.out i o hi hh hk
 ·rw[hlen];rcases key i o hi with⟨hlt,hi⟩|⟨hge,hi⟩
  ·simp only[zuO hlt];have hob:=r'.obj i o hi;have hnm:=hob.nm;rw[hl] at hnm;exact hob.re (qi (fun q hq=>by omega) hnm) (qi (fun q hq=>zuO hq) hnm) (zuL _) (fun _ _ _ hv=>hv) (fun _ _=>rfl) (fun _=>rfl)
  ·simp only[zuQ (show¬i<n by omega)];have hob:=r.obj i o hi;have hcell:(o.holds=true∨(ρ i).blk<w0.B)→∀j v,w.cell? ⟨(ρ i).blk,j,none⟩=some v→w'.cell? ⟨(ρ i).blk,j,none⟩=some v:=by
    intro hk j v hv;rcases hk with hk|hk
    ·have:=(r'.keep (ρ i).blk (.inr ⟨i,o,hge,hi,hk,rfl⟩)).2;have e:w'.cell? ⟨(ρ i).blk,j,none⟩=w.cell? ⟨(ρ i).blk,j,none⟩:=by
      simp only[World.cell?,this]
     rw[e];exact hv
    ·have e:w'.cell? ⟨(ρ i).blk,j,none⟩=w.cell? ⟨(ρ i).blk,j,none⟩:=Below.cell (p:=⟨(ρ i).blk,j,none⟩) r'.below.toBelow hk;rw[e];exact hv
   refine hob.re hob.nm (hn i o hge hi) r'.below.size hcell (fun hk j=> ?_) (fun hk=>(r'.keep (ρ i).blk (.inr ⟨i,o,hge,hi,(by cases o<;>first|rfl|cases hk),rfl⟩)).2);have:=(r'.keep (ρ i).blk (.inr ⟨i,o,hge,hi,hk,rfl⟩)).2;simp only[World.frozen?,this]
 ·rcases key i o hi with⟨l1,a1⟩|⟨g1,a1⟩<;>rcases key j o' hj with⟨l2,a2⟩|⟨g2,a2⟩
  ·simp only[zuO l1,zuO l2];exact r'.inj i j o o' a1 a2 hne k1 k2
  ·simp only[zuO l1,zuQ (show¬j<n by omega)];intro e;exact r'.out i o a1 k1 (.inr ⟨j,o',g2,a2,k2,e⟩)
  ·simp only[zuO l2,zuQ (show¬i<n by omega)];intro e;exact r'.out j o' a2 k2 (.inr ⟨i,o,g1,a1,k1,e.symm⟩)
  ·simp only[zuQ (show¬i<n by omega),zuQ (show¬j<n by omega)];exact r.inj i j o o' a1 a2 hne k1 k2
theorem zjz{S:Nat→Prop}{v:SV}(h:nlS v=true):nmS S v:=by cases v<;>first|exact trivial|cases h
theorem zgw{S:Nat→Prop}{l:List SV}(h:l.all nlS=true):nmL S l:=yd.2 fun v hv=>zjz (zu4.1 h v hv)
theorem ztM{S:Nat→Prop}{v:FV}(h:nlV v=true):nmV S v:=by
 cases v with
 |s v=>exact zjz h
 |agg l=>exact zgw h
 |tup l=>
  cases l with
  |nil=>trivial
  |cons x r=>cases h
section
variable {S:Nat→Prop} {fr:Fr}
def FrN(S:Nat→Prop)(fr:Fr):Prop:=∀t v,yq fr t=some v→nmV S v
theorem zaY(hF:FrN S fr){x:OD}(hc:nlD x=true){v:FV}(he:odE fr x=some v):nmV S v:=by
 cases x with
 |t n=>exact hF n v he
 |c u=>obtain rfl:=zuG he;exact ztM hc
theorem jN(hF:FrN S fr){x:OD}(hc:nlD x=true){v:SV}(he:odS fr x=some v):nmS S v:=zaY hF hc (zdX he)
theorem zjD(hF:FrN S fr):∀{l:List OD},l.all nlD=true→∀{vs:List FV},odL fr l=some vs→∀v∈vs,nmV S v
 |[],_,vs,he=>by simp only[odL,zuE] at he;subst he;simp
 |x::r,hc,vs,he=>by
  simp only[zwp,zuP] at hc;simp only[odL] at he;split at he
  ·rename_i u hu;obtain⟨ys,hy,rfl⟩:=zuI.1 he;intro v hv;rcases zuX.1 hv with rfl|hv
   ·exact zaY hF hc.1 hu
   ·exact zjD hF hc.2 hy v hv
  ·cases he
theorem zm9{v:FV}{l:List SV}(hv:nmV S v)(h:jI v=some l):nmL S l:=by
 cases v with
 |s v=>simp only[jI,zuE] at h;subst h;exact⟨hv,trivial⟩
 |agg m=>simp only[jI,zuE] at h;subst h;exact hv
 |tup l=>cases h
theorem zok(hF:FrN S fr){x:OD}(hc:nlD x=true){l:List SV}(he:(odE fr x).bind jI=some l):nmL S l:=by obtain⟨v,h1,h2⟩:=zuU.1 he;exact zm9 (zaY hF hc h1) h2
theorem zk0:∀{l vs:List SV} {o:Nat},nmL S vs→nmL S l→nmL S (qr vs o l)
 |[],vs,o,hv,_=>hv
 |c::r,vs,o,hv,hl=>by
  simp only[qr];refine zk0 (yd.2 fun v hm=> ?_) hl.2;rcases List.mem_or_eq_of_mem_set hm with hm|rfl
  ·exact yd.1 hv v hm
  ·exact hl.1
theorem zf4(hF:FrN S fr):∀{ps:List (Nat×Nat×OD)} {cs l:List SV},(ps.all fun p=>nlD p.2.2)=true→nmL S cs→ZK fr cs ps=some l→nmL S l
 |[],cs,l,_,hv,he=>by simp only[ZK,zuE] at he;subst he;exact hv
 |(o,n,x)::r,cs,l,hc,hv,he=>by
  simp only[zwp,zuP] at hc;simp only[ZK] at he;split at he
  ·rename_i m hm;split at he
   ·split at he
    ·exact zf4 hF hc.2 (zk0 hv (zok hF hc.1 hm)) he
    ·cases he
   ·cases he
  ·cases he
theorem zoy{n:Nat}{z:List SV}(h:nmL S z):nmL S (rep n z):=by refine yd.2 fun v hv=> ?_;obtain⟨l,h1,h2⟩:=zxx.1 hv;rw[List.eq_of_mem_replicate h1] at h2;exact yd.1 h v h2
theorem zsG{op:BinOp}{a b v:SV}(h:zcW op a b=some v):nmS S v:=by
 cases v<;>first
  |exact trivial
  |(exfalso;revert h;cases a<;>cases b<;>simp only[zcW]<;>(try (intro h;cases h;done))<;>(try unfold zdA)<;>(try unfold zjX)<;>(try unfold zej)<;>(try unfold zb9)<;>(try unfold zb7)<;>(repeat' split)<;>intro h<;>cases h)
theorem un_nm{op:UnOp}{a v:SV}(h:unE op a=some v):nmS S v:=by
 unfold unE at h
 split at h<;>first
  |(obtain rfl:=zuG h;exact trivial)
  |cases h
theorem zsm{k:IntKind}:∀{l:List SV} {a:Int} {v:SV},zbJ k a l=some v→nmS S v
 |[],a,v,h=>by simp only[zbJ,zuE] at h;subst h;trivial
 |x::r,a,v,h=>by
  cases x<;>simp only[zbJ] at h<;>first
   |exact zsm h
   |cases h
theorem zsn{k:IntKind}:∀{l:List SV} {a:Int} {v:SV},zbH k a l=some v→nmS S v
 |[],a,v,h=>by simp only[zbH,zuE] at h;subst h;trivial
 |x::r,a,v,h=>by
  cases x<;>simp only[zbH] at h<;>first
   |exact zsn h
   |cases h
theorem op_nm{h h':LH}{op:EO}{v:FV}(hc:yt op=false)(hn:nlE op=true)(hF:FrN S fr)(hH:∀p o,S p→h[p]? =some o→nmO S o)(he:opE fr h op=some (v,h')):nmV S v:=by
 have hcells:∀p t vs,S p→cellsOf h p=some (t,vs)→nmL S vs:=by
  intro p t vs hp hq;unfold cellsOf at hq;split at hq
  ·rename_i t' vs' ho;obtain⟨rfl,rfl⟩:=zuZ (zuG hq);exact hH p _ hp ho
  ·rename_i t' vs' ho;obtain⟨rfl,rfl⟩:=zuZ (zuG hq);exact hH p _ hp ho
  ·cases hq
 cases op<;>first
  |(cases hc;done)
  |skip
 case mov x=>
  simp only[opE] at he;obtain⟨u,hu,e⟩:=zuI.1 he;obtain⟨rfl,_⟩:=zuZ e;exact zaY hF hn hu
 case nilc x=>
  simp only[opE] at he;split at he
  ·rename_i i o hx;obtain⟨rfl,_⟩:=zuZ (zuG he);exact jN hF hn hx
  ·cases he
 case nilf x=>
  simp only[opE] at he;split at he
  ·rename_i i hx;split at he
   ·obtain⟨rfl,_⟩:=zuZ (zuG he);exact jN hF hn hx
   ·cases he
  ·rename_i f hx;obtain⟨rfl,_⟩:=zuZ (zuG he);trivial
  ·cases he
 case pick c a b=>
  simp only[nlE,zuP] at hn;simp only[opE] at he;split at he
  ·rename_i t x y h1 h2 h3;obtain⟨rfl,_⟩:=zuZ (zuG he);split
   ·exact zaY hF hn.1.2 h2
   ·exact zaY hF hn.2 h3
  ·cases he
 case load agg n a=>
  simp only[opE] at he;split at he
  ·rename_i i o hx;split at he
   ·rename_i t vs hcl;have hs:=hcells i t vs (jN hF hn hx) hcl;split at he
    ·split at he
     ·obtain⟨rfl,_⟩:=zuZ (zuG he);exact yd.2 fun v hv=>yd.1 hs v (zwn (zvM hv))
     ·cases he
    ·split at he
     ·rename_i u hu;obtain⟨rfl,_⟩:=zuZ (zuG he);exact yd.1 hs u (zvE hu)
     ·cases he
   ·cases he
  ·cases he
 case build z ps=>
  simp only[nlE,zuP] at hn;simp only[opE] at he;obtain⟨l,hl,e⟩:=zuI.1 he;obtain⟨rfl,_⟩:=zuZ e;exact zf4 hF hn.2 (zgw hn.1) hl
 case bin op x y=>
  simp only[opE] at he;split at he
  ·obtain⟨l,hl,e⟩:=zuI.1 he;obtain⟨rfl,_⟩:=zuZ e;exact zsG hl
  ·cases he
 case eqb q x y=>
  simp only[opE] at he;split at he
  ·obtain⟨rfl,_⟩:=zuZ (zuG he);trivial
  ·cases he
 case eqp q x y=>
  simp only[opE] at he;split at he
  ·obtain⟨l,hl,e⟩:=zuI.1 he;obtain⟨rfl,_⟩:=zuZ e;trivial
  ·cases he
 case eqn q x y=>
  simp only[opE] at he;split at he
  ·obtain⟨l,hl,e⟩:=zuI.1 he;obtain⟨rfl,_⟩:=zuZ e;trivial
  ·cases he
 case eqs q l x y=>
  simp only[opE] at he;split at he
  ·obtain⟨l,hl,e⟩:=zuI.1 he;obtain⟨rfl,_⟩:=zuZ e;trivial
  ·cases he
 case un op x=>
  simp only[opE] at he;split at he
  ·obtain⟨l,hl,e⟩:=zuI.1 he;obtain⟨rfl,_⟩:=zuZ e;exact un_nm hl
  ·cases he
 case sli t z x lo hi=>
  simp only[nlE,zuP] at hn;simp only[opE] at he;split at he
  ·split at he
   ·obtain⟨rfl,_⟩:=zuZ (zuG he);trivial
   ·cases he
  ·rename_i i p o n hx;have hs:S i:=jN hF hn.1.1 hx
   (repeat' split at he)<;>first
     |(cases he;done)
     |(obtain⟨rfl,_⟩:=zuZ (zuG he);exact hs)
  ·cases he
 case mlen x=>
  simp only[opE] at he
  (repeat' split at he)<;>first
    |(cases he;done)
    |(obtain⟨rfl,_⟩:=zuZ (zuG he);trivial)
 case mget q ok z m k=>
  simp only[nlE,zuP] at hn;simp only[opE] at he;split at he
  ·rename_i i u hm hk;split at he
   ·rename_i es hi;split at he
    ·split at he
     ·rename_i r hg;obtain⟨rfl,_⟩:=zuZ (zuG he);have hs:=hH i _ (jN (v:= .mp i) hF hn.1.2 hm) hi;have hv:nmS S (r.getD z):=by
       cases r with
       |none=>exact zjz hn.1.1
       |some v=>
        obtain⟨x,x1,rfl⟩:=zgc hg;exact hs x x1
      split
      ·exact⟨hv,trivial,trivial⟩
      ·exact hv
     ·cases he
    ·cases he
   ·cases he
  ·cases he
 case sli0 x=>
  simp only[opE] at he;split at he
  ·obtain⟨rfl,_⟩:=zuZ (zuG he);trivial
  ·rename_i hx;obtain⟨rfl,_⟩:=zuZ (zuG he);exact jN hF hn hx
  ·rename_i hx;obtain⟨rfl,_⟩:=zuZ (zuG he);exact jN hF hn hx
  ·cases he
 case fad o x=>
  simp only[opE] at he;split at he
  ·rename_i hx;obtain⟨rfl,_⟩:=zuZ (zuG he);exact jN hF hn hx
  ·cases he
 case fld agg o n x=>
  simp only[opE] at he;split at he
  ·rename_i l hx;have hs:nmL S l:=zaY hF hn hx;split at he
   ·split at he
    ·obtain⟨rfl,_⟩:=zuZ (zuG he);exact yd.2 fun v hv=>yd.1 hs v (zwn (zvM hv))
    ·cases he
   ·split at he
    ·rename_i u hu;obtain⟨rfl,_⟩:=zuZ (zuG he);exact yd.1 hs u (zvE hu)
    ·cases he
  ·cases he
 case iad t z x i=>
  simp only[nlE,zuP] at hn;simp only[opE] at he;split at he
  ·rename_i hx hi;have hs:=jN hF hn.1 hx
   (repeat' split at he)<;>first
     |(cases he;done)
     |(obtain⟨rfl,_⟩:=zuZ (zuG he);exact hs)
  ·cases he
 case iaa n z x i=>
  simp only[nlE,zuP] at hn;simp only[opE] at he;split at he
  ·rename_i hx hi;have hs:=jN hF hn.1 hx
   (repeat' split at he)<;>first
     |(cases he;done)
     |(obtain⟨rfl,_⟩:=zuZ (zuG he);exact hs)
  ·cases he
 case ext x i=>
  simp only[opE] at he;split at he
  ·rename_i l hx;have hs:zev S l:=zaY hF hn hx;split at he
   ·rename_i u hu;obtain⟨rfl,_⟩:=zuZ (zuG he);exact J9.1 hs u (zvE hu)
   ·cases he
  ·cases he
 case mn x l=>
  simp only[opE] at he;split at he
  ·obtain⟨u,hu,e⟩:=zuI.1 he;obtain⟨rfl,_⟩:=zuZ e;exact zsm hu
  ·cases he
 case mx x l=>
  simp only[opE] at he;split at he
  ·obtain⟨u,hu,e⟩:=zuI.1 he;obtain⟨rfl,_⟩:=zuZ e;exact zsn hu
  ·cases he
 all_goals
  simp only[opE] at he
  (repeat' split at he)<;>first
    |(cases he;done)
    |(obtain⟨rfl,_⟩:=zuZ (zuG he);exact trivial)
    |(obtain⟨u,hu,e⟩:=zuI.1 he
      obtain⟨rfl,_⟩:=zuZ e;exact trivial)
end
end
section
variable {P:Program} {w0:Base}
theorem zoj{fr:Fr}{h h':LH}{op:EO}{v:FV}(hl:Yw op=false)(he:opE fr h op=some (v,h')):h'=h∧∀h2,opE fr h2 op=some (v,h2):=by
 cases op<;>first
  |(cases hl;done)
  |(simp only[opE] at he⊢
    constructor
    ·(repeat' split at he)<;>simp_all [zuI]<;>grind
    ·intro h2
     (repeat' split at he)<;>simp_all [zuI]<;>grind)
theorem zhY{fr:Fr}{h h':LH}{op:EO}{v:FV}(hl:yt op=false)(he:opE fr h op=some (v,h')):h'=h:=by
 cases op<;>first
  |(cases hl;done)
  |(simp only[opE] at he
    (repeat' split at he)<;>simp_all [zuI]<;>grind)
theorem JO{op:EO}(h:yt op=false):jA op=false:=by
 cases op<;>first
  |rfl
  |cases h
theorem zlY{op:EO}(h:Yw op=false):jA op=false:=by
 cases op<;>first
  |rfl
  |cases h
theorem zit{call:zU}{fr:Fr}{h h':LH}{op:EO}{v:FV}(hl:Yw op=false)(he:zK call fr h op=some (v,h')):h'=h∧∀h2,zK call fr h2 op=some (v,h2):=by unfold zK at he⊢;rw[zlY hl] at he⊢;exact zoj hl he
theorem Yy{call:zU}{fr:Fr}{h h':LH}{op:EO}{v:FV}(hl:yt op=false)(he:zK call fr h op=some (v,h')):h'=h:=by unfold zK at he;rw[JO hl] at he;exact zhY hl he
theorem zb6{op:EO}(h:yt op=true):Yw op=true:=by
 cases op<;>first
  |rfl
  |cases h
theorem zgC{op:EO}(h:paE op=true):jA op=false:=by
 cases op<;>first
  |rfl
  |cases h
theorem zkP{fr:Fr}{h h':LH}{op:EO}{v:FV}(hp:paE op=true)(he:opE fr h op=some (v,h')):∃(o:LO) (mk:Nat→FV),h'=h++[o]∧v=mk h.length∧(∀h2:LH,opE fr h2 op=some (mk h2.length,h2++[o]))∧
 (∀(S:Nat→Prop) (q:Nat),S q→nmV S (mk q))∧∀S:Nat→Prop,nlE op=true→FrN S fr→nmO S o:=by
 cases op<;>first
  |(cases hp;done)
  |skip
 case new t n x=>
  simp only[opE] at he⊢;split at he
  ·rename_i l hl;split at he
   ·rename_i hn;cases he;exact⟨.own t l,fun q=> .s (.ptr q 0),rfl,rfl,fun h2=>by simp[hn],fun S q hq=>hq,fun S hc hF=>zok hF hc hl⟩
   ·cases he
  ·cases he
 case bsl t n z ps=>
  simp only[opE] at he⊢;obtain⟨l,hl,e⟩:=zuI.1 he;cases e;refine⟨.own t l,fun q=> .s (.sl q 0 0 n),rfl,rfl,fun h2=>by rw[hl];rfl,fun S q hq=>hq,fun S hc hF=> ?_⟩;simp only[nlE,zuP] at hc;exact zf4 hF hc.2 (zoy (zgw hc.1)) hl
 case mks t y z l=>
  simp only[opE] at he⊢;split at he
  ·rename_i n hl;split at he
   ·rename_i h1;split at he
    ·rename_i h2;cases he;refine⟨.own t (rep n.toNat z),fun q=> .s (.sl q 0 0 n.toNat),rfl,rfl,fun h3=>by simp[h1,h2],fun S q hq=>hq,fun S hc hF=> ?_⟩;simp only[nlE,zuP] at hc;exact zoy (zgw hc.1)
    ·cases he
   ·cases he
  ·cases he
 case mkf f a b=>
  simp only[opE] at he⊢;split at he
  ·rename_i x y hx hy;split at he
   ·rename_i h1;cases he;refine⟨.clo f x y,fun q=> .s (.cl q),rfl,rfl,fun h3=>by simp[h1],fun S q hq=>hq,fun S hc hF=> ?_⟩;simp only[nlE,zuP] at hc;exact⟨zjD hF hc.1 hx,zjD hF hc.2 hy⟩
   ·cases he
  ·cases he
 case mki t x=>
  simp only[opE] at he⊢;split at he
  ·rename_i v hv;split at he
   ·rename_i h1;cases he;exact⟨.ifc t v,fun q=> .s (.iv q),rfl,rfl,fun h3=>by simp[h1],fun S q hq=>hq,fun S hc hF=>zaY hF hc hv⟩
   ·cases he
  ·cases he
theorem YW{h h2:LH}{i:Nat}(e:h2[i]? =h[i]?):cellsOf h2 i=cellsOf h i:=by unfold cellsOf;rw[e]
theorem zi6{h h2:LH}{t z:Nat}{v:SV}(e:∀i p o n,v= .sl i p o n→h2[i]? =h[i]?):j6 h2 t z v=j6 h t z v:=by
 unfold j6
 split<;>first
  |rfl
  |(rename_i i p o n hn
    rw[YW (e i p o n rfl)])
theorem zjE{fr:Fr}{h h' h2:LH}{op:EO}{v:FV}(hc:yt op=false)(he:opE fr h op=some (v,h'))(hs:∀p,rdO fr op=some p→h2[p]? =h[p]?):opE fr h2 op=some (v,h2):=by
 cases hl:Yw op with
 |false=>exact(zoj hl he).2 _
 |true=>
  have hh:=zhY hc he;subst hh
  cases op<;>first
   |(cases hc;done)
   |(cases hl;done)
   |skip
  case nilf x=>
   simp only[opE,rdO] at he hs⊢;cases hx:odS fr x with
   |none=>rw[hx] at he;cases he
   |some y=>
    rw[hx] at he hs
    cases y<;>first
     |(cases he;done)
     |(obtain⟨rfl,_⟩:=zuZ (zuG he);rfl)
     |(simp only at he hs⊢
       rw[hs _ rfl];split at he
       ·obtain⟨rfl,_⟩:=zuZ (zuG he);rfl
       ·cases he)
  case load agg n a=>
   simp only[opE,rdO] at he hs⊢;cases hx:odS fr a with
   |none=>rw[hx] at he;cases he
   |some y=>
    rw[hx] at he hs
    cases y<;>first
     |(cases he;done)
     |skip
    simp only at he hs⊢;rw[YW (hs _ rfl)]
    (repeat' split at he)<;>first
      |(cases he;done)
      |(obtain⟨rfl,_⟩:=zuZ (zuG he);simp[*])
  case b2s t1 x=>
   simp only[opE,rdO] at he hs⊢;cases hx:odS fr x with
   |none=>rw[hx] at he;cases he
   |some y=>
    rw[hx] at he hs;simp only at he⊢;have e:j6 h2 t1 1 y=j6 h' t1 1 y:=zi6 fun i p o n hy=>by subst hy;exact hs i rfl
    rw[e]
    (repeat' split at he)<;>first
      |(cases he;done)
      |(obtain⟨rfl,_⟩:=zuZ (zuG he);simp[*])
  case sli t1 z x lo hi=>
   simp only[opE,rdO] at he hs⊢;cases hx:odS fr x with
   |none=>rw[hx] at he;cases he
   |some y=>
    rw[hx] at he hs
    cases y<;>first
     |(cases he;done)
     |(simp only at he hs⊢
       rw[YW (hs _ rfl)]
       (repeat' split at he)<;>first
         |(cases he;done)
         |(obtain⟨rfl,_⟩:=zuZ (zuG he);simp[*]))
     |(simp only at he hs⊢
       (repeat' split at he)<;>first
         |(cases he;done)
         |(obtain⟨rfl,_⟩:=zuZ (zuG he);simp[*]))
  case iad t1 z x i=>
   simp only[opE,rdO] at he hs⊢;cases hx:odS fr x with
   |none=>rw[hx] at he;cases he
   |some y=>
    rw[hx] at he hs
    cases y<;>first
     |(cases he;done)
     |skip
    simp only at he hs⊢;cases hi:odS fr i with
    |none=>rw[hi] at he;cases he
    |some u=>
     rw[hi] at he
     cases u<;>first
      |(cases he;done)
      |skip
     simp only at he⊢;rw[YW (hs _ rfl)]
     (repeat' split at he)<;>first
       |(cases he;done)
       |(obtain⟨rfl,_⟩:=zuZ (zuG he);simp[*])
  case mlen x=>
   simp only[opE,rdO] at he hs⊢;cases hx:odS fr x with
   |none=>rw[hx] at he;cases he
   |some y=>
    rw[hx] at he hs
    cases y<;>first
     |(cases he;done)
     |skip
    simp only at he hs⊢;rw[hs _ rfl];split at he
    ·obtain⟨rfl,_⟩:=zuZ (zuG he);rfl
    ·cases he
  case mget q ok z m k=>
   simp only[opE,rdO] at he hs⊢;cases hx:odS fr m with
   |none=>rw[hx] at he;cases he
   |some y=>
    rw[hx] at he hs
    cases y<;>first
     |(cases he;done)
     |skip
    cases hu:odS fr k with
    |none=>rw[hu] at he;cases he
    |some u=>
     rw[hu] at he;simp only at he hs⊢;rw[hs _ rfl];split at he
     ·split at he
      ·rename_i hk';rw[zuO hk'];split at he
       ·rename_i r hg;obtain⟨rfl,_⟩:=zuZ (zuG he);simp only[hg]
       ·cases he
      ·cases he
     ·cases he
theorem zho(acc:Array Nat)(j:Nat):∀(l:List Edge) (s:Nat),(l.foldl (fun s e=>if Region.binds .any e then s|||2^e.on|||acc.getD e.on 0 else s) s).testBit j=true→
 s.testBit j=true∨∃e∈l,Region.binds .any e=true∧(j=e.on∨(acc.getD e.on 0).testBit j=true)
 |[],s,h=> .inl h
 |e::l,s,h=>by
  rw[zwv] at h;rcases zho acc j l _ h with h|⟨e',h1,h2⟩
  ·split at h
   ·rename_i hb;rw[Nat.testBit_or,Nat.testBit_or,Nat.testBit_two_pow] at h;simp only[zvJ,zuW] at h;rcases h with(h|h)|h
    ·exact .inl h
    ·exact .inr ⟨e,zvT,hb,.inl h.symm⟩
    ·exact .inr ⟨e,zvT,hb,.inr h⟩
   ·exact .inl h
  ·exact .inr ⟨e',zvD _ h1,h2⟩
def zcm(acc:Array Nat)(o:Oper):Array Nat:=acc.push (o.after.foldl (fun s e=>if Region.binds .any e then s|||2^e.on|||acc.getD e.on 0 else s) 0)
theorem zb2:∀(l:List Oper) (acc:Array Nat) (ops:List Oper),ops.length=acc.size→
 (∀(i j:Nat),(acc.getD i 0).testBit j=true→∃o e,ops[i]? =some o∧e∈o.after∧Region.binds .any e=true∧(j=e.on∨(acc.getD e.on 0).testBit j=true))→
 ∀(i j:Nat),((l.foldl zcm acc).getD i 0).testBit j=true→∃o e,(ops++l)[i]? =some o∧e∈o.after∧Region.binds .any e=true∧(j=e.on∨((l.foldl zcm acc).getD e.on 0).testBit j=true)
 |[],acc,ops,hs,ha,i,j,h=>by simpa using ha i j h
 |o::l,acc,ops,hs,ha,i,j,h=>by
  rw[zwv] at h⊢;have:=zb2 l (zcm acc o) (ops++[o]) (by simp[zcm,hs]) (fun i j h=> ?_) i j h
  ·rw[zvc] at this;exact this
  ·have hget:∀k,((zcm acc o).getD k 0)=if k=acc.size then(o.after.foldl (fun s e=>if Region.binds .any e then s|||2^e.on|||acc.getD e.on 0 else s) 0) else acc.getD k 0:=by
    intro k;simp only[zcm,zvF,Array.getElem?_push];split<;>rfl
   have hmono:∀k,(acc.getD k 0).testBit j=true→((zcm acc o).getD k 0).testBit j=true:=by
    intro k hk;rw[hget];split
    ·rename_i hk';subst hk';simp at hk
    ·exact hk
   rw[hget] at h;split at h
   ·rename_i hi;rw[←zxG] at h;rcases zho acc j _ _ h with h|⟨e,h1,h2,h3⟩
    ·simp at h
    ·refine⟨o,e,by rw[zuN (by omega)];simp[hi,hs],Array.mem_toList_iff.1 h1,h2,h3.imp id (hmono _)⟩
   ·obtain⟨o',e,h1,h2,h3,h4⟩:=ha i j h;refine⟨o',e,?_,h2,h3,h4.imp id (hmono _)⟩;rw[zuK (zuJ.1 h1).1];exact h1
theorem zb3{ops:Array Oper}{i j:Nat}(h:((Region.before ops).getD i 0).testBit j=true):∃o e,ops[i]? =some o∧e∈o.after∧Region.binds .any e=true∧(j=e.on∨((Region.before ops).getD e.on 0).testBit j=true):=by
 have hb:Region.before ops=ops.toList.foldl zcm #[]:=by unfold Region.before;rw[←zxG];rfl
 rw[hb] at h⊢;obtain⟨o,e,h1,h2⟩:=zb2 ops.toList #[] [] rfl (fun i j h=>by simp at h) i j h;exact⟨o,e,by simpa using h1,h2⟩
structure Tr(call:zU)(gs:List EG)(fr:Fr)(h:LH)(fr':Fr)(h':LH)(frs:Nat→Fr)(hs:Nat→LH)(val:Nat→FV)(want:Nat→Bool)(tr:List (Option TE)):Prop where
 fr0:frs 0=fr
 h0:hs 0=h
 frN:frs gs.length=fr'
 hN:hs gs.length=h'
 wantOk:∀i g,gs[i]? =some g→jt (zl (zI g) (frs i)) g.guard=some (want i)
 next:∀i g,gs[i]? =some g→frs (i+1)=qx (frs i) g.dst (some (val i))
 off:∀i g,gs[i]? =some g→want i=false→val i= .tup []∧hs (i+1)=hs i∧tr[i]? =some none
 on:∀i g,gs[i]? =some g→want i=true→zK call (zl (zI g) (frs i)) (hs i) g.op=some (val i,hs (i+1))∧tr[i]? =some (some ⟨zl (zI g) (frs i),hs i,g.op,val i,hs (i+1)⟩)
def shift{α:Type}(x:α)(f:Nat→α):Nat→α
 |0=>x
 |n+1=>f n
theorem zen{call:zU}:∀(gs:List EG) (fr:Fr) (h:LH) (tr:List (Option TE)) (fr':Fr) (h':LH),je call gs fr h=some (tr,fr',h')→∃frs hs val want,Tr call gs fr h fr' h' frs hs val want tr
 |[],fr,h,tr,fr',h',he=>by
  simp only[je,zuE,zuH] at he;obtain⟨rfl,rfl,rfl⟩:=he;exact⟨fun _=>fr,fun _=>h,fun _=> .tup [],fun _=>false,⟨rfl,rfl,rfl,rfl,by simp,by simp,by simp,by simp⟩⟩
 |g::gs,fr,h,tr,fr',h',he=>by
  simp only[je] at he;split at he
  ·rename_i hw;split at he
   ·rename_i v h1 hv;obtain⟨⟨tr1,fr1,h2⟩,h3,hq⟩:=zuI.1 he;simp only[zuH] at hq;obtain⟨rfl,rfl,rfl⟩:=hq;obtain⟨frs,hs,val,want,T⟩:=zen gs _ h1 tr1 fr1 h2 h3;refine⟨shift fr frs,shift h hs,shift v val,shift true want,⟨rfl,rfl,T.frN,T.hN,?_,?_,?_,?_⟩⟩
    ·intro i g' hi;cases i with
     |zero=>obtain rfl:=zuG hi;exact hw
     |succ i=>exact T.wantOk i g' hi
    ·intro i g' hi;cases i with
     |zero=>obtain rfl:=zuG hi;exact T.fr0
     |succ i=>exact T.next i g' hi
    ·intro i g' hi hf;cases i with
     |zero=>cases hf
     |succ i=>exact T.off i g' hi hf
    ·intro i g' hi hf;cases i with
     |zero=>
      obtain rfl:=zuG hi;have e:hs 0=h1:=T.h0;refine⟨?_,?_⟩
      ·show zK call (zl (zI g) fr) h g.op=some (v,hs 0);rw[e];exact hv
      ·show some (some (⟨zl (zI g) fr,h,g.op,v,h1⟩:TE))=some (some ⟨zl (zI g) fr,h,g.op,v,hs 0⟩);rw[e]
     |succ i=>exact T.on i g' hi hf
   ·cases he
  ·rename_i hw;obtain⟨⟨tr1,fr1,h2⟩,h3,hq⟩:=zuI.1 he;simp only[zuH] at hq;obtain⟨rfl,rfl,rfl⟩:=hq;obtain⟨frs,hs,val,want,T⟩:=zen gs _ h tr1 fr1 h2 h3;refine⟨shift fr frs,shift h hs,shift (.tup []) val,shift false want,⟨rfl,rfl,T.frN,T.hN,?_,?_,?_,?_⟩⟩
   ·intro i g' hi;cases i with
    |zero=>obtain rfl:=zuG hi;exact hw
    |succ i=>exact T.wantOk i g' hi
   ·intro i g' hi;cases i with
    |zero=>obtain rfl:=zuG hi;exact T.fr0
    |succ i=>exact T.next i g' hi
   ·intro i g' hi hf;cases i with
    |zero=>exact⟨rfl,T.h0,rfl⟩
    |succ i=>exact T.off i g' hi hf
   ·intro i g' hi hf;cases i with
    |zero=>cases hf
    |succ i=>exact T.on i g' hi hf
  ·cases he
theorem zch{call:zU}{tr:List (Option TE)}:∀{l:List (Nat×Nat)},yg call tr l→∀p∈l,qb call tr p
 |[],_,p,hp=>by cases hp
 |q::l,h,p,hp=>by
  rcases zuX.1 hp with rfl|hp
  ·exact h.1
  ·exact zch h.2 p hp
end
section
variable {P:Program} {w0:Base}
def JG(P:Program)(G:Base→Prop):Prop:=∀(w0:Base) (ρ:Nat→Ph) (h:LH) (w:World) (F:Nat→Prop),Rel P w0 ρ h w→G w0→G ⟨w,w0.B,F,w0.dr⟩
def Bf(ops:Array Oper)(x y:Nat):Bool:=((Region.before ops).getD x 0).testBit y
theorem zl0{ops:Array Oper}{ord:List Nat}{gs:List EG}{i j:Nat}{g g':EG}(hi:gs[i]? =some g)(hj:gs[j]? =some g')(hl:Yw g.op=true)(hpa:paE g.op=false)(hc:yt g'.op=true)(hne:i≠j)
 (h1:Bf ops (ord.getD j 0) (ord.getD i 0)=false) (h2:Bf ops (ord.getD i 0) (ord.getD j 0)=false) (h3:paE g'.op=false∨j<i):(i,j)∈za3 ops ord gs:=by
 unfold za3;refine zvR.2 ⟨i,zwl.2 (zuJ.1 hi).1,?_⟩;simp only[hi,hl,hpa,Bool.not_false,zxm,if_true];refine List.mem_filterMap.2 ⟨j,zwl.2 (zuJ.1 hj).1,?_⟩;unfold Bf at h1 h2;have h4:(paE g'.op&&decide (i<j))=false:=by
  rcases h3 with h|h
  ·rw[h];rfl
  ·rw[zv2 (by omega),Bool.and_false]
 simp only[hj,hc,h1,h2,h4];simp[hne]
structure DOk(P:Program)(N:Nat)(ops:Array Oper)(π:Nat→Nat)(gs:List EG):Prop where
 size:ops.size=gs.length
 lt:∀i,i<gs.length→π i<gs.length
 surj:∀x,x<gs.length→∃i,i<gs.length∧π i=x
 inj:∀i j,i<gs.length→j<gs.length→π i=π j→i=j
 after:∀i o,i<gs.length→ops[π i]? =some o→∀e∈o.after,Region.binds .any e=true→∃j,j<i∧π j=e.on
 nl:∀(i:Nat) (g:EG),gs[i]? =some g→nlE g.op=true
 slots:∀(i j d:Nat) (g g':EG),gs[i]? =some g→gs[j]? =some g'→g'.dst=some d→(i≠j→g.dst≠some d)∧(d∈zI g→i=j∨Bf ops (π i) (π j)=true∨Bf ops (π j) (π i)=true)
 get:∀i,i<gs.length→∃o g,ops[π i]? =some o∧gs[i]? =some g∧zeH P N ops o=some g
theorem zeI{N:Nat}{ops:Array Oper}:∀{l:List Oper} {gs:List EG},Zh P N ops l=some gs→l.length=gs.length∧∀(i:Nat) (o:Oper),l[i]? =some o→∃g,gs[i]? =some g∧zeH P N ops o=some g
 |[],gs,h=>by
  simp only[Zh,zuE] at h;subst h;simp
 |o::l,gs,h=>by
  simp only[Zh] at h;split at h
  ·rename_i g hg;obtain⟨gs',hgs,rfl⟩:=zuI.1 h;obtain⟨h1,h2⟩:=zeI hgs;refine⟨by simp[h1],fun i o' hi=> ?_⟩;cases i with
   |zero=>obtain rfl:=zuG hi;exact⟨g,rfl,hg⟩
   |succ i=>exact h2 i o' hi
  ·cases h
theorem zlA{N:Nat}{ops:Array Oper}{l0:List EG}(hc:Zh P N ops ops.toList=some l0){ord:List Nat}(hd:zfV ops ord (Yl ord l0)=true):DOk P N ops (fun i=>ord.getD i 0) (Yl ord l0):=by
 obtain⟨hlen,hget⟩:=zeI hc;have hsz:ops.size=l0.length:=by rw[←hlen];simp
 unfold zfV at hd;simp only[zuP] at hd;obtain⟨⟨⟨d1,d2⟩,d3⟩,d4⟩:=hd;have hol:ord.length=ops.size:=by simpa using d1
 have hgl:(Yl ord l0).length=ord.length:=by simp[Yl]
 have hlt:∀i,i<ord.length→ord.getD i 0<ops.size:=by intro i hi;rw[zwx,zuV hi];have:=zu4.1 d3 _ (zvk hi);simpa using this
 have hgs:∀i,i<ord.length→(Yl ord l0)[i]? =l0[ord.getD i 0]? :=by intro i hi;have h1:=hlt i hi;rw[zwx,zuV hi] at h1;simp only[zwH] at h1;simp only[Yl,zvC,zuV hi,zvb,zwx,zwH];rw[zuV (by omega)];rfl
 have hall:=fun i (hi:i<(Yl ord l0).length)=>zu4.1 d4 i (zwl.2 hi);refine⟨by omega,fun i hi=> ?_,fun x hx=> ?_,fun i j hi hj he=> ?_,fun i o hi ho e hee hb=> ?_,fun i g hg=> ?_,fun i j d g g' hi hj hdst=> ?_,fun i hi=> ?_⟩
 ·have:=hlt i (by omega);omega
 ·have:=zu4.1 d2 x (zwl.2 (by omega));have hm:x∈ord:=by simpa using this
  obtain⟨i,hi⟩:=zwO.1 hm;have hil:=(zuJ.1 hi).1;exact⟨i,by omega,by rw[zwx,hi];rfl⟩
 ·have:=hall i hi;rw[zuP] at this;have h2:=this.2;rw[zuV hi] at h2;simp only[zuP] at h2;have h3:=zu4.1 h2.2 j (zwl.2 hj);simp only[zuP] at h3;have h4:=h3.1;apply Classical.byContradiction;intro hne;have he':ord.getD i 0=ord.getD j 0:=he;rw[zvJ] at h4;rcases h4 with h4|h4
  ·exact hne (by simpa using h4)
  ·rw[he'] at h4;simp at h4
 ·have:=hall i hi;rw[zuP] at this;have h1:=this.1;have ho':ops[ord.getD i 0]? =some o:=ho;simp only[ho'] at h1;have h2:=Array.all_eq_true_iff_forall_mem.1 h1 e hee;rw[hb] at h2;have hm:e.on∈ord.take i:=by simpa using h2
  obtain⟨j,hj⟩:=zwO.1 hm;rw[zvh] at hj;split at hj
  ·rename_i hji;exact⟨j,hji,by show ord.getD j 0=e.on;rw[zwx,hj];rfl⟩
  ·cases hj
 ·have hi:=(zuJ.1 hg).1;have:=hall i hi;rw[zuP] at this;have h2:=this.2;simp only[hg,zuP] at h2;exact h2.1
 ·have hil:=(zuJ.1 hi).1;have hjl:=(zuJ.1 hj).1;have:=hall i hil;rw[zuP] at this;have h2:=this.2;simp only[hi,zuP] at h2;have h3:=zu4.1 h2.2 j (zwl.2 hjl);simp only[zuP,hj,hdst] at h3;obtain⟨_,h4,h5⟩:=h3;refine⟨fun hne hq=> ?_,fun hm=> ?_⟩
  ·simp[hne,hq] at h4
  ·simpa[hm,or_assoc,Bf] using h5
 ·have hio:ord.getD i 0<ops.size:=hlt i (by omega);obtain⟨g,hg,hcg⟩:=hget (ord.getD i 0) ops[ord.getD i 0] (by simp[hio]);exact⟨_,g,zvy hio,by rw[hgs i (by omega)];exact hg,hcg⟩
theorem zn6{fr:Fr}{keep:List Nat}{t:Nat}{v:FV}(h:yq (zl keep fr) t=some v):t∈keep:=by
 induction keep with
 |nil=>cases h
 |cons k r ih=>
  simp only[zl,zu2,yq] at h;by_cases e:t=k
  ·rw[e];exact zvT
  ·rw[zuQ e] at h;exact zvD _ (ih h)
theorem filter_lt{p q:Nat→Bool}:∀(l:List Nat) (i:Nat),i∈l→(∀j,q j=true→p j=true)→p i=true→q i=false→(l.filter q).length<(l.filter p).length
 |[],i,h,_,_,_=>by cases h
 |x::l,i,h,hpq,hp,hq=>by
  have hle:∀l:List Nat,(l.filter q).length≤(l.filter p).length:=by
   intro l
   induction l with
   |nil=>exact zuL _
   |cons y l ih=>
    simp only[zwq];cases hqy:q y with
    |true=>rw[hpq y hqy];simpa using ih
    |false=>
     cases p y
     ·simpa using ih
     ·simp only[zva,if_false,if_true,zvr];omega
  rcases zuX.1 h with rfl|hm
  ·simp only[zwq,hp,hq,zva,if_false,if_true,zvr];have:=hle l;omega
  ·have ih:=filter_lt l i hm hpq hp hq;simp only[zwq];cases hqx:q x with
   |true=>rw[hpq x hqx];simpa using ih
   |false=>
    cases p x
    ·simpa using ih
    ·simp only[zva,if_false,if_true,zvr];omega
section
variable {ρ:Nat→Ph} {h:LH} {w:World} {N:Nat} {fr:Fr} {a:Act} {Q:Exit→Act→World→Prop}
theorem zcD{call:zU}{gs:List EG}{fr':Fr}{h':LH}{frs:Nat→Fr}{hs:Nat→LH}{val:Nat→FV}{want:Nat→Bool}{tr:List (Option TE)}(T:Tr call gs fr h fr' h' frs hs val want tr):∀i,i≤gs.length→∀t v,yq (frs i) t=some v→(∃j g,j<i∧gs[j]? =some g∧g.dst=some t∧v=val j)∨((∀j g,j<i→gs[j]? =some g→g.dst≠some t)∧yq fr t=some v)
 |0,_,t,v,hg=>by
  rw[T.fr0] at hg;exact .inr ⟨fun j g hj=>absurd hj (Nat.not_lt_zero _),hg⟩
 |i+1,hi,t,v,hg=>by
  have hgi:gs[i]? =some gs[i]:=zuV hi;rw[T.next i _ hgi] at hg;cases hdst:gs[i].dst with
  |none=>
   rw[hdst] at hg;rcases zcD T i (by omega) t v hg with⟨j,g,h1,h2⟩|⟨h1,h2⟩
   ·exact .inl ⟨j,g,by omega,h2⟩
   ·refine .inr ⟨fun j g hj hjg=> ?_,h2⟩;by_cases e:j=i
    ·subst e;rw[hgi] at hjg;obtain rfl:=zuG hjg;rw[hdst];simp
    ·exact h1 j g (by omega) hjg
  |some d=>
   rw[hdst] at hg;simp only[qx,yq] at hg;by_cases e:t=d
   ·rw[zuO e] at hg;exact .inl ⟨i,_,by omega,hgi,by rw[hdst,e],(zuG hg).symm⟩
   ·rw[zuQ e] at hg;rcases zcD T i (by omega) t v hg with⟨j,g,h1,h2⟩|⟨h1,h2⟩
    ·exact .inl ⟨j,g,by omega,h2⟩
    ·refine .inr ⟨fun j g hj hjg=> ?_,h2⟩;by_cases e':j=i
     ·subst e';rw[hgi] at hjg;obtain rfl:=zuG hjg;rw[hdst];intro hq;exact e (zuG hq).symm
     ·exact h1 j g (by omega) hjg
def zo(L:Array Bool)(i:Nat):Prop:=L.getD i false=true
theorem q7{L:Array Bool}{i j:Nat}(hi:i<L.size):zo (L.setIfInBounds i true) j↔j=i∨zo L j:=by
 unfold zo;by_cases e:i=j
 ·subst e;simp[zvF,zw1,hi]
 ·rw[zvF,zwy e,←zvF];constructor
  ·exact .inr
  ·rintro(rfl|h)
   ·exact absurd rfl e
   ·exact h
def Kn(gs:List EG)(fr:Fr)(val:Nat→FV)(E:Nat→Prop)(t:Nat)(v:FV)(p:Nat):Prop:=
 (∃i g,E i∧gs[i]? =some g∧g.dst=some t∧v=val i∧p=i+1)∨((∀i g,E i→gs[i]? =some g→g.dst≠some t)∧yq fr t=some v∧p=0)
def j5(hs:Nat→LH)(n:Nat)(E:Nat→Prop)(m k:Nat):Prop:=m≤k∧k<n∧E k∧hs (k+1)≠hs k
def Yb(hs:Nat→LH)(n:Nat)(E:Nat→Prop)(m q:Nat):Prop:=q<(hs m).length∨∃k,j5 hs n E m k∧q=(hs k).length
structure Pad(hs:Nat→LH)(n:Nat)(E:Nat→Prop)(m:Nat)(H:LH):Prop where
 len:H.length=(hs n).length
 old:∀q,q<(hs m).length→H[q]? =(hs m)[q]?
 onm:∀(q:Nat) (o:LO),(hs m)[q]? =some o→nmO (·<(hs m).length) o
 early:∀k,j5 hs n E m k→H[(hs k).length]? =(hs (k+1))[(hs k).length]?
 enm:∀(k:Nat) (o:LO),j5 hs n E m k→H[(hs k).length]? =some o→nmO (·<(hs k).length) o∧nmO (Yb hs n E m) o
 dead:∀q,(hs m).length≤q→q<(hs n).length→(∀k,j5 hs n E m k→q≠(hs k).length)→H[q]? =some .dead
structure Inv(P:Program)(w0:Base)(N:Nat)(ops:Array Oper)(π:Nat→Nat)(gs:List EG)(fr:Fr)(hs:Nat→LH)(val:Nat→FV)(ρ0:Nat→Ph)(n0:Nat)(L:Array Bool)(a:Act)(w:World):Prop where
 size:L.size=ops.size
 closed:∀x y,zo L x→Bf ops x y=true→zo L y
 tsize:a.tmps.size=N
 defers:a.defers=[]
 heap:∃ρ m H,m≤gs.length∧(m=0∨∃k g,m=k+1∧gs[k]? =some g∧paE g.op=false∧hs (k+1)≠hs k)∧(∀k,k<m→hs (k+1)≠hs k→zo L (π k))∧
  (∀k g,m≤k→gs[k]? =some g→zo L (π k)→hs (k+1)≠hs k→paE g.op=true)∧Pad hs gs.length (fun k=>zo L (π k)) m H∧Rel P w0 ρ H w∧Ext n0 ρ0 ρ∧
  ∀t v p,Kn gs fr val (fun k=>zo L (π k)) t v p→t<N∧a.tmps.getD t undef=cv ρ v∧wfV ρ (hs (max m p)).length v∧nmV (Yb hs gs.length (fun k=>zo L (π k)) m) v∧p≤gs.length
theorem zdy{n:Nat}:∀{fr:Fr},zdx n fr→FrN (·<n) fr
 |[],_,t,v,h=>by cases h
 |(k,x)::r,hl,t,v,h=>by
  cases x with
  |none=>
   simp only[yq] at h;split at h
   ·cases h
   ·exact zdy (show zdx n r from hl) t v h
  |some u=>
   simp only[yq] at h;split at h
   ·obtain rfl:=zuG h;exact hl.1
   ·exact zdy (show zdx n r from hl.2) t v h
theorem zsp{S:Nat→Prop}{fr:Fr}{op:EO}{p:Nat}(hn:nlE op=true)(hF:FrN S fr)(h:rdO fr op=some p):S p:=by
 cases op<;>simp only[rdO] at h<;>first
  |(cases h;done)
  |(split at h
    ·rename_i hx;obtain rfl:=zuG h
     first
      |exact jN (v:= .ptr _ _) hF hn hx
      |exact jN (v:= .cl _) hF hn hx
      |exact jN (v:= .sl _ _ _ _) hF hn hx
      |(simp only[nlE,zuP] at hn
        first
         |exact jN (v:= .sl _ _ _ _) hF hn.1 hx
         |exact jN (v:= .sl _ _ _ _) hF hn.1.1 hx
         |exact jN (v:= .mp _) hF hn.1.2 hx)
      |exact jN (v:= .mp _) hF hn hx
    ·cases h)
theorem rd_lt{n:Nat}{fr:Fr}{op:EO}{p:Nat}(hn:nlE op=true)(hF:FrN (·<n) fr)(h:rdO fr op=some p):p<n:=zsp (S:=fun q=>q<n) hn hF h
theorem zby{n m:Nat}(hm:n≤m):∀{fr:Fr},zdx n fr→zdx m fr
 |[],_=>trivial
 |(k,none)::r,h=>zby hm (fr:=r) h
 |(k,some v)::r,h=>⟨jn (fun q hq=>zvB hq hm) h.1,zby hm (fr:=r) h.2⟩
theorem zdq(p:Nat→Prop)(h:∃k,p k):∃k,p k∧∀j,j<k→¬p j:=by
 obtain⟨k,hk⟩:=h
 induction k using Nat.strongRecOn with
 |_ k ih=>
  by_cases e:∃j,j<k∧p j
  ·obtain⟨j,j1,j2⟩:=e;exact ih j j1 j2
  ·exact⟨k,hk,fun j hj hp=>e ⟨j,hj,hp⟩⟩
end
end
section
variable {P:Program} {w0:Base}
section
variable {ρ:Nat→Ph} {h:LH} {w:World} {N:Nat} {fr:Fr} {a:Act} {Q:Exit→Act→World→Prop}
theorem zct{H t:LH}{x q:Nat}(hx:x≤H.length)(hq:q<x):(H.take x++t)[q]? =H[q]? :=by rw[zuK (by rw[zu0];omega),zvh,zuO hq]
structure Mono(hs:Nat→LH)(n:Nat)(pa:Nat→Prop):Prop where
 step:∀k,k<n→(hs k).length≤(hs (k+1)).length
 one:∀k,k<n→pa k→hs (k+1)≠hs k→∃o,hs (k+1)=hs k++[o]
theorem Mono.le{hs:Nat→LH}{n:Nat}{pa:Nat→Prop}(M:Mono hs n pa){x:Nat}:∀y,x≤y→y≤n→(hs x).length≤(hs y).length:=by
 intro y
 induction y with
 |zero=>intro h _;rw[Nat.le_zero.1 h];exact zuL _
 |succ y ih=>
  intro h hn;by_cases e:x=y+1
  ·rw[e];exact zuL _
  ·exact zvz (ih (by omega) (by omega)) (M.step y (by omega))
section
variable {hs:Nat→LH} {n m:Nat} {pa E:Nat→Prop} {H:LH}
theorem j5.lens(M:Mono hs n pa)(hpa:∀k,j5 hs n E m k→pa k){k:Nat}(he:j5 hs n E m k):(hs (k+1)).length=(hs k).length+1:=by obtain⟨o,ho⟩:=M.one k he.2.1 (hpa k he) he.2.2.2;rw[ho,zuM,zuS]
theorem Pad.take_eq(M:Mono hs n pa)(hpa:∀k,j5 hs n E m k→pa k)(D:Pad hs n E m H):∀x,m≤x→x≤n→(∀k,m≤k→k<x→hs (k+1)≠hs k→E k)→H.take (hs x).length=hs x:=by
 intro x
 induction x with
 |zero=>
  intro h hn hk;obtain rfl:=Nat.le_zero.1 h;refine zv0 fun q=> ?_;rw[zvh];split
  ·rename_i hq;exact D.old q hq
  ·rename_i hq;rw[zvK (by omega)]
 |succ x ih=>
  intro h hn hk;by_cases e:m=x+1
  ·subst e;refine zv0 fun q=> ?_;rw[zvh];split
   ·rename_i hq;exact D.old q hq
   ·rename_i hq;rw[zvK (by omega)]
  ·have ih:=ih (by omega) (by omega) (fun k h1 h2 h3=>hk k h1 (by omega) h3);by_cases hc:hs (x+1)=hs x
   ·rw[hc];exact ih
   ·have he:j5 hs n E m x:=⟨by omega,by omega,hk x (by omega) (by omega) hc,hc⟩
    obtain⟨o,ho⟩:=M.one x (by omega) (hpa x he) hc;have hl:(hs (x+1)).length=(hs x).length+1:=by rw[ho,zuM,zuS]
    rw[hl,List.take_add_one,ih,D.early x he,ho];simp
theorem Pad.allLive(M:Mono hs n pa)(hpa:∀k,j5 hs n E m k→pa k):∀x,m≤x→x≤n→(∀k,m≤k→k<x→hs (k+1)≠hs k→E k)→∀q,q<(hs x).length→Yb hs n E m q:=by
 intro x
 induction x with
 |zero=>intro h hn hk q hq;obtain rfl:=Nat.le_zero.1 h;exact .inl hq
 |succ x ih=>
  intro h hn hk q hq;by_cases e:m=x+1
  ·subst e;exact .inl hq
  ·have ih:=ih (by omega) (by omega) (fun k h1 h2 h3=>hk k h1 (by omega) h3);by_cases hc:hs (x+1)=hs x
   ·rw[hc] at hq;exact ih q hq
   ·have he:j5 hs n E m x:=⟨by omega,by omega,hk x (by omega) (by omega) hc,hc⟩
    have:=he.lens M hpa;by_cases hx:q=(hs x).length
    ·exact .inr ⟨x,he,hx⟩
    ·exact ih q (by omega)
theorem Pad.nmTo(M:Mono hs n pa)(D:Pad hs n E m H){x:Nat}(hm:m≤x)(hx:x≤n):∀(q:Nat) (o:LO),q<(hs x).length→H[q]? =some o→nmO (·<(hs x).length) o:=by
 intro q o hq ho;have hml:=M.le x hm hx;by_cases h1:q<(hs m).length
 ·rw[D.old q h1] at ho;exact qi (fun p hp=>by omega) (D.onm q o ho)
 ·by_cases h2:∃k,j5 hs n E m k∧q=(hs k).length
  ·obtain⟨k,hk,rfl⟩:=h2;exact qi (fun p hp=>by omega) (D.enm k o hk ho).1
  ·have:=M.le n hx (zuL _);rw[D.dead q (by omega) (by omega) (fun k hk he=>h2 ⟨k,hk,he⟩)] at ho;obtain rfl:=zuG ho;trivial
theorem Pad.nmLive(D:Pad hs n E m H):∀(q:Nat) (o:LO),Yb hs n E m q→H[q]? =some o→nmO (Yb hs n E m) o:=by
 intro q o hq ho;rcases hq with h1|⟨k,hk,rfl⟩
 ·rw[D.old q h1] at ho;exact qi (fun p hp=> .inl hp) (D.onm q o ho)
 ·exact(D.enm k o hk ho).2
theorem Pad.nmAll(D:Pad hs n E m H):∀(q:Nat) (o:LO),H[q]? =some o→nmO (Yb hs n E m) o:=by
 intro q o ho;by_cases hq:Yb hs n E m q
 ·exact D.nmLive q o hq ho
 ·have hl:=(zuJ.1 ho).1;rw[D.len] at hl;have hml:¬q<(hs m).length:=fun h=>hq (.inl h);rw[D.dead q (by omega) hl (fun k hk he=>hq (.inr ⟨k,hk,he⟩))] at ho;obtain rfl:=zuG ho;trivial
end
theorem znm{G:Base→Prop}(hG:JG P G)(hgd:G w0){call:zU}(hcall:∀w0,G w0→ZE P w0 call)(hgrow:YA call){ops:Array Oper}{ord:List Nat}{gs:List EG}(hd:DOk P N ops (fun i=>ord.getD i 0) gs){fr':Fr}{h':LH}{frs:Nat→Fr}{hs:Nat→LH}{val:Nat→FV}{want:Nat→Bool}{tr:List (Option TE)}
 (T:Tr call gs fr h fr' h' frs hs val want tr) (hp:yg call tr (za3 ops ord gs)) {n0:Nat} {ρ0:Nat→Ph} (hn0:n0=h.length)
 (hQ:∀ρ' a' w',Rel P w0 ρ' h' w'→FrR ρ' h'.length N fr' a'→Ext n0 ρ0 ρ'→n0≤h'.length→Q .normal a' w'):
 ∀(fuel:Nat) (L:Array Bool) (a:Act) (w:World),Inv P w0 N ops (fun i=>ord.getD i 0) gs fr hs val ρ0 n0 L a w→((List.range gs.length).filter fun i=> !L.getD i false).length≤fuel→wpAny P .any ops Q fuel L a w:=by
 --the machine's run
 have hstepk:∀k,k<gs.length→hs (k+1)≠hs k→∃gk,gs[k]? =some gk∧want k=true∧yt gk.op=true∧zK call (zl (zI gk) (frs k)) (hs k) gk.op=some (val k,hs (k+1))∧tr[k]? =some (some ⟨zl (zI gk) (frs k),hs k,gk.op,val k,hs (k+1)⟩):=by
  intro k hk hne;have hgk:gs[k]? =some gs[k]:=zuV hk;cases hwk:want k with
  |false=>exact absurd (T.off k _ hgk hwk).2.1 hne
  |true=>
   obtain⟨s1,s2⟩:=T.on k _ hgk hwk;refine⟨_,hgk,rfl,?_,s1,s2⟩;cases hch:yt gs[k].op with
   |true=>rfl
   |false=>exact absurd (Yy hch s1) hne
 have M:Mono hs gs.length (fun k=>∃g,gs[k]? =some g∧paE g.op=true):=by
  refine⟨fun k hk=> ?_,fun k hk hpk hne=> ?_⟩
  ·by_cases hne:hs (k+1)=hs k
   ·rw[hne];exact zuL _
   ·obtain⟨gk,_,_,_,h4,_⟩:=hstepk k hk hne;exact zbS hgrow h4
  ·obtain⟨gk,h1,_,_,h4,_⟩:=hstepk k hk hne;obtain⟨g,h5,h6⟩:=hpk;rw[h1] at h5;obtain rfl:=zuG h5;unfold zK at h4;rw[zgC h6] at h4;obtain⟨o,mk,e,_⟩:=zkP h6 h4;exact⟨o,e⟩
 have hL0:n0=(hs 0).length:=by rw[T.h0];exact hn0
 --what comes ahead is smaller
 have hlt:∀i,i<gs.length→∀j,j<gs.length→Bf ops (ord.getD i 0) (ord.getD j 0)=true→j<i:=by
  intro i
  induction i using Nat.strongRecOn with
  |_ i ih=>
   intro hi j hj hb;obtain⟨o,e,h1,h2,h3,h4⟩:=zb3 hb;obtain⟨j',q1,q2⟩:=hd.after i o hi h1 e h2 h3;rcases h4 with h4|h4
   ·have:=hd.inj j j' hj (by omega) (h4.trans q2.symm);omega
   ·have:=ih j' q1 (by omega) j hj (by show Bf ops (ord.getD j' 0) _=true;rw[show ord.getD j' 0=e.on from q2];exact h4);omega
 have hready:∀{L:Array Bool} {a:Act} {w:World} {x:Nat},Inv P w0 N ops (fun i=>ord.getD i 0) gs fr hs val ρ0 n0 L a w→x∈Region.ready .any ops L→x<gs.length∧¬zo L x∧∀y,Bf ops x y=true→zo L y:=by
  intro L a w x I hx;obtain⟨h1,o,ho,h2⟩:=mem_ready.1 hx;have hxl:x<ops.size:=(zwb.1 ho).1;refine⟨by rw[←hd.size];exact hxl,?_,?_⟩
  ·unfold zo;have:x<L.size:=by rw[I.size];exact hxl
   rw[zvF,zvy this] at h1⊢;simp only[zwH] at h1⊢;rw[h1];decide
  ·intro y hb;obtain⟨o',e,h3,h4,h5,h6⟩:=zb3 hb;rw[ho] at h3;obtain rfl:=zuG h3;have hl:=h2 e h4 h5;rcases h6 with rfl|h6
   ·exact hl
   ·exact I.closed e.on y hl h6
 have hall:∀{L:Array Bool} {a:Act} {w:World},Inv P w0 N ops (fun i=>ord.getD i 0) gs fr hs val ρ0 n0 L a w→Region.ready .any ops L=[]→∀i,i<gs.length→zo L (ord.getD i 0):=by
  intro L a w I hr i
  induction i using Nat.strongRecOn with
  |_ i ih=>
   intro hi;by_cases hl:zo L (ord.getD i 0)
   ·exact hl
   ·exfalso;obtain⟨o,g,ho,hg,hcg⟩:=hd.get i hi;have hio:ord.getD i 0<ops.size:=(zwb.1 ho).1;have:ord.getD i 0∈Region.ready .any ops L:=by
     refine mem_ready.2 ⟨?_,o,ho,fun e he hb=> ?_⟩
     ·have:ord.getD i 0<L.size:=by rw[I.size];exact hio
      unfold zo at hl;rw[zvF,zvy this] at hl⊢;simp only[zwH] at hl⊢;cases hq:L[ord.getD i 0]
      ·rfl
      ·rw[hq] at hl;exact absurd rfl hl
     ·obtain⟨j,q1,q2⟩:=hd.after i o hi ho e he hb;have:=ih j q1 (by omega);rw[show ord.getD j 0=e.on from q2] at this;exact this
    rw[hr] at this;cases this
 have hfin:∀{L:Array Bool} {a:Act} {w:World},Inv P w0 N ops (fun i=>ord.getD i 0) gs fr hs val ρ0 n0 L a w→(∀i,i<gs.length→zo L (ord.getD i 0))→Q .normal a w:=by
  intro L a w I hl;obtain⟨ρ,m,H,hm,hcan,h1,h2,D,R,hE,hK⟩:=I.heap;have hpa:∀k,j5 hs gs.length (fun k=>zo L (ord.getD k 0)) m k→∃g,gs[k]? =some g∧paE g.op=true:=by intro k hk;have hkl:k<gs.length:=hk.2.1;have hgk:gs[k]? =some gs[k]:=zuV hkl;exact⟨_,hgk,h2 k _ hk.1 hgk hk.2.2.1 hk.2.2.2⟩
  have hHN:=D.take_eq M hpa gs.length hm (zuL _) (fun k _ hk _=>hl k hk);rw[zvA (by rw[D.len];exact zuL _),T.hN] at hHN;subst hHN;refine hQ ρ a w R ⟨I.tsize,I.defers,fun t v hv=> ?_⟩ hE (by rw[hL0];have:=M.le gs.length (zws _) (zuL _);rw[T.hN] at this;exact this);rw[←T.frN] at hv;have hkn:∃p,Kn gs fr val (fun k=>zo L (ord.getD k 0)) t v p:=by
   rcases zcD T gs.length (zuL _) t v hv with⟨j,g,q1,q2,q3,q4⟩|⟨q1,q2⟩
   ·exact⟨_,.inl ⟨j,g,hl j q1,q2,q3,q4,rfl⟩⟩
   ·exact⟨_,.inr ⟨fun j g hj hg=>q1 j g (zuJ.1 hg).1 hg,q2,rfl⟩⟩
  obtain⟨p,hkn⟩:=hkn;obtain⟨r1,r2,r3,_,r5⟩:=hK t v p hkn;refine⟨r1,r2,zbl (Ext.refl _ _) ?_ r3⟩;have:=M.le gs.length (x:=max m p) (by omega) (zuL _);rw[T.hN] at this;exact this
 intro fuel
 induction fuel with
 |zero=>
  intro L a w I hf;have hl:∀i,i<gs.length→zo L (ord.getD i 0):=by
   intro i hi;apply Classical.byContradiction;intro hne;have:ord.getD i 0∈(List.range gs.length).filter fun i=> !L.getD i false:=by refine zvx.2 ⟨zwl.2 (hd.lt i hi),?_⟩;unfold zo at hne;simpa using hne
   have:=List.length_pos_of_mem this;omega
  refine⟨?_,hfin I hl⟩;cases hr:Region.ready .any ops L with
  |nil=>rfl
  |cons i r=>
   obtain⟨q1,q2,_⟩:=hready I (by rw[hr];exact zvT);obtain⟨k,k1,k2⟩:=hd.surj i q1;exact absurd (by rw[←k2];exact hl k k1) q2
 |succ fuel ih=>
  intro L a w I hf;refine⟨fun hr=>hfin I (hall I hr),fun x hx=> ?_⟩;obtain⟨hxl,hnx,hbx⟩:=hready I hx;obtain⟨i,hil,hix⟩:=hd.surj x hxl;have hix:ord.getD i 0=x:=hix;subst hix;have hnl:¬zo L (ord.getD i 0):=hnx;have hbef:∀j,Bf ops (ord.getD i 0) (ord.getD j 0)=true→zo L (ord.getD j 0):=fun j hb=>hbx _ hb;have hLi:ord.getD i 0<L.size:=by rw[I.size,hd.size];exact hxl
  obtain⟨o,g,hopi,hg,hcg⟩:=hd.get i hil;have hopi:ops[ord.getD i 0]? =some o:=hopi;obtain⟨d1,d2,⟨d3,d3'⟩,d4⟩:=zaC hcg;obtain⟨ρ,m,H,hm,hcan,h1,h2,D,R,hE,hK⟩:=I.heap
  --names
  have hpa:∀k,j5 hs gs.length (fun k=>zo L (ord.getD k 0)) m k→∃g,gs[k]? =some g∧paE g.op=true:=by intro k hk;have hkl:k<gs.length:=hk.2.1;have hgk:gs[k]? =some gs[k]:=zuV hkl;exact⟨_,hgk,h2 k _ hk.1 hgk hk.2.2.1 hk.2.2.2⟩
  have hls:∀{k:Nat},k<gs.length→(zo (L.setIfInBounds (ord.getD i 0) true) (ord.getD k 0)↔k=i∨zo L (ord.getD k 0)):=by
   intro k hk;rw[q7 hLi];constructor
   ·rintro(h|h)
    ·exact .inl (hd.inj k i hk hil h)
    ·exact .inr h
   ·rintro(rfl|h)
    ·exact .inl rfl
    ·exact .inr h
  have hclosed':∀x y,zo (L.setIfInBounds (ord.getD i 0) true) x→Bf ops x y=true→zo (L.setIfInBounds (ord.getD i 0) true) y:=by
   intro x y hx hb;rcases(q7 hLi).1 hx with rfl|hx
   ·exact(q7 hLi).2 (.inr (hbx y hb))
   ·exact(q7 hLi).2 (.inr (I.closed x y hx hb))
  have hfuel':((List.range gs.length).filter fun j=> !(L.setIfInBounds (ord.getD i 0) true).getD j false).length≤fuel:=by
   have:=filter_lt (p:=fun j=> !L.getD j false) (q:=fun j=> !(L.setIfInBounds (ord.getD i 0) true).getD j false) (List.range gs.length) (ord.getD i 0) (zwl.2 hxl) (fun j hq=> ?_) ?_ ?_
   ·omega
   ·have h0:¬zo (L.setIfInBounds (ord.getD i 0) true) j:=by unfold zo;simpa using hq
    have h1':¬zo L j:=fun hh=>h0 ((q7 hLi).2 (.inr hh));unfold zo at h1';simpa using h1'
   ·unfold zo at hnl;simpa using hnl
   ·have:zo (L.setIfInBounds (ord.getD i 0) true) (ord.getD i 0):=(q7 hLi).2 (.inl rfl);unfold zo at this;simpa using this
  --the frame of the slots that it looks at
  have hFk:∀t v,yq (zl (zI g) (frs i)) t=some v→∃p,p≤i∧Kn gs fr val (fun k=>zo L (ord.getD k 0)) t v p:=by
   intro t v hv;have htm:=zn6 hv;have hv':=zeO hv;rcases zcD T i (by omega) t v hv' with⟨j,g',q1,q2,q3,q4⟩|⟨q1,q2⟩
   ·refine⟨j+1,q1,.inl ⟨j,g',?_,q2,q3,q4,rfl⟩⟩;have hjl:=(zuJ.1 q2).1;rcases(hd.slots i j t g g' hg q2 q3).2 htm with r|r|r
    ·omega
    ·exact hbef j r
    ·have:=hlt j hjl i hil r;omega
   ·refine⟨0,zws _,.inr ⟨fun j g' hj hjg hdst=> ?_,q2,rfl⟩⟩;have hjl:=(zuJ.1 hjg).1;rcases(hd.slots i j t g g' hg hjg hdst).2 htm with r|r|r
    ·subst r;exact hnl hj
    ·exact q1 j g' (hlt i hil j hjl r) hjg hdst
    ·exact hnl (I.closed _ _ hj r)
  have hF:FrR ρ (hs (max m i)).length N (zl (zI g) (frs i)) a:=by refine⟨I.tsize,I.defers,fun t v hv=> ?_⟩;obtain⟨p,hp,hkn⟩:=hFk t v hv;obtain⟨r1,r2,r3,_,r5⟩:=hK t v p hkn;exact⟨r1,r2,zbl (Ext.refl _ _) (M.le (max m i) (x:=max m p) (by omega) (by omega)) r3⟩
  have hFlive:FrN (Yb hs gs.length (fun k=>zo L (ord.getD k 0)) m) (zl (zI g) (frs i)):=by intro t v hv;obtain⟨p,hp,hkn⟩:=hFk t v hv;exact(hK t v p hkn).2.2.2.1
  have hFlt:∀n',zdx n' (zl (zI g) (frs i))→FrR ρ n' N (zl (zI g) (frs i)) a:=by intro n' hlt';refine⟨I.tsize,I.defers,fun t v hv=> ?_⟩;obtain⟨r1,r2,r3⟩:=hF.get t v hv;exact⟨r1,r2,(zj4 r3 (zdy hlt' t v hv) (Qa (fun _=>rfl) v)).1⟩
  --what is known when it is done
  have hknown:∀t v p,Kn gs fr val (fun k=>zo (L.setIfInBounds (ord.getD i 0) true) (ord.getD k 0)) t v p→(g.dst=some t∧v=val i∧p=i+1)∨(g.dst≠some t∧Kn gs fr val (fun k=>zo L (ord.getD k 0)) t v p):=by
   intro t v p hk;rcases hk with⟨j,g',q1,q2,q3,q4,q5⟩|⟨q1,q2,q3⟩
   ·have hjl:=(zuJ.1 q2).1;rcases(hls hjl).1 q1 with rfl|q1
    ·rw[hg] at q2;obtain rfl:=zuG q2;exact .inl ⟨q3,q4,q5⟩
    ·have hne:i≠j:=fun e=>hnl (e▸q1);exact .inr ⟨(hd.slots i j t g g' hg q2 q3).1 hne,.inl ⟨j,g',q1,q2,q3,q4,q5⟩⟩
   ·refine .inr ⟨q1 i g ((hls hil).2 (.inl rfl)) hg,.inr ⟨fun j g' hj hjg=>q1 j g' ((hls (zuJ.1 hjg).1).2 (.inr hj)) hjg,q2,q3⟩⟩
  have hsz:∀(x:Value),(a.put o.dst x).tmps.size=N∧(a.put o.dst x).defers=[]:=by
   intro x;cases o.dst with
   |none=>exact⟨I.tsize,I.defers⟩
   |some d=>exact⟨by simp[Act.put,I.tsize],I.defers⟩
  have hsize':(L.setIfInBounds (ord.getD i 0) true).size=ops.size:=by rw[Array.size_setIfInBounds,I.size]
  --the values,in a later placing
  have hput:∀(ρ':Nat→Ph) (m':Nat) (S:Nat→Prop),m≤m'→m'≤gs.length→(∀q,Yb hs gs.length (fun k=>zo L (ord.getD k 0)) m q→ρ' q=ρ q∧S q)→wfV ρ' (hs (max m' (i+1))).length (val i)→nmV S (val i)→
   ∀t v p,Kn gs fr val (fun k=>zo (L.setIfInBounds (ord.getD i 0) true) (ord.getD k 0)) t v p→t<N∧(a.put o.dst (cv ρ' (val i))).tmps.getD t undef=cv ρ' v∧wfV ρ' (hs (max m' p)).length v∧nmV S v∧p≤gs.length:=by
   intro ρ' m' S hmm hmn hS hwx hnx t v p hkn;rcases hknown t v p hkn with⟨q1,rfl,rfl⟩|⟨q1,q2⟩
   ·rw[d2] at q1;have htN:=d1 t q1;rw[q1];exact⟨htN,QZ (by rw[I.tsize];exact htN),hwx,hnx,hil⟩
   ·obtain⟨r1,r2,r3,r4,r5⟩:=hK t v p q2;obtain⟨s1,s2⟩:=zj4 (m:=(hs (max m' p)).length) r3 (jn (fun q hq=>zvB hq (M.le (max m' p) (x:=max m p) (by omega) (by omega))) (Qu r3)) (jn (fun q hq=>(hS q hq).1) r4);refine⟨r1,?_,s1,jn (fun q hq=>(hS q hq).2) r4,r5⟩;rw[s2];cases hdd:g.dst with
    |none=>rw[←d2,hdd];exact r2
    |some d=>
     rw[hdd] at q1;rw[←d2,hdd];exact(Zj (fun e=>q1 (by rw[e]))).trans r2
  --a heap that stays as it is
  have hLive0:hs (i+1)=hs i→∀q,Yb hs gs.length (fun k=>zo (L.setIfInBounds (ord.getD i 0) true) (ord.getD k 0)) m q↔Yb hs gs.length (fun k=>zo L (ord.getD k 0)) m q:=by
   intro heff q;constructor
   ·rintro(h|⟨k,⟨k1,k2,k3,k4⟩,k5⟩)
    ·exact .inl h
    ·rcases(hls k2).1 k3 with rfl|k3
     ·exact absurd heff k4
     ·exact .inr ⟨k,⟨k1,k2,k3,k4⟩,k5⟩
   ·rintro(h|⟨k,⟨k1,k2,k3,k4⟩,k5⟩)
    ·exact .inl h
    ·exact .inr ⟨k,⟨k1,k2,(hls k2).2 (.inr k3),k4⟩,k5⟩
  have hstay:∀(ρ':Nat→Ph) (w':World),hs (i+1)=hs i→Rel P w0 ρ' H w'→(∀q,Yb hs gs.length (fun k=>zo L (ord.getD k 0)) m q→ρ' q=ρ q)→Ext n0 ρ ρ'→wfV ρ' (hs (max m (i+1))).length (val i)→
   nmV (Yb hs gs.length (fun k=>zo L (ord.getD k 0)) m) (val i)→wpAny P .any ops Q fuel (L.setIfInBounds (ord.getD i 0) true) (a.put o.dst (cv ρ' (val i))) w':=by
   intro ρ' w' heff R' hag hE' hwf hnm;have hL0:=hLive0 heff;have hEa:∀k,j5 hs gs.length (fun k=>zo (L.setIfInBounds (ord.getD i 0) true) (ord.getD k 0)) m k↔j5 hs gs.length (fun k=>zo L (ord.getD k 0)) m k:=by
    intro k;constructor
    ·rintro⟨k1,k2,k3,k4⟩;rcases(hls k2).1 k3 with rfl|k3
     ·exact absurd heff k4
     ·exact⟨k1,k2,k3,k4⟩
    ·rintro⟨k1,k2,k3,k4⟩;exact⟨k1,k2,(hls k2).2 (.inr k3),k4⟩
   refine ih _ _ _ ⟨hsize',hclosed',(hsz _).1,(hsz _).2,ρ',m,H,hm,hcan,fun k hk hne=>(hls (by omega)).2 (.inr (h1 k hk hne)),fun k gk hk hgk hlk hne=> ?_,?_,R',fun q hq=>(hE' q hq).trans (hE q hq),?_⟩ hfuel'
   ·rcases(hls (zuJ.1 hgk).1).1 hlk with rfl|hlk
    ·exact absurd heff hne
    ·exact h2 k gk hk hgk hlk hne
   ·refine⟨D.len,D.old,D.onm,fun k hk=>D.early k ((hEa k).1 hk),fun k o hk ho=> ?_,fun q q1 q2 q3=>D.dead q q1 q2 fun k hk=>q3 k ((hEa k).2 hk)⟩;obtain⟨e1,e2⟩:=D.enm k o ((hEa k).1 hk) ho;exact⟨e1,qi (fun q hq=>(hL0 q).2 hq) e2⟩
   ·exact hput ρ' m _ (zuL _) hm (fun q hq=>⟨hag q hq,(hL0 q).2 hq⟩) hwf (jn (fun q hq=>(hL0 q).2 hq) hnm)
  --one step of it,on the first objects
  have hrun:∀(x y:Nat) (g1:LH),m≤x→x≤y→y≤gs.length→(∀q,Yb hs gs.length (fun k=>zo L (ord.getD k 0)) m q→q<(hs x).length∨(hs y).length≤q)→g1.length=(hs y).length→
        zK call (zl (zI g) (frs i)) (H.take (hs x).length) g.op=some (val i,g1)→FrR ρ (hs x).length N (zl (zI g) (frs i)) a→
   ∀(K:Act→World→Prop),(∀ρ' w',(∀(q:Nat) (o:LO),g1[q]? =some o→nmO (·<(hs y).length) o)→Rel P w0 ρ' (g1++H.drop (hs y).length) w'→(∀q,Yb hs gs.length (fun k=>zo L (ord.getD k 0)) m q→ρ' q=ρ q)→Ext (hs x).length ρ ρ'→wfV ρ' (hs y).length (val i)→K (a.put o.dst (cv ρ' (val i))) w')→o.wp P a w K Q:=by
   intro x y g1 hmx hxy hyn hdis hgl hst hFx K hKK;have hxl:=M.le y hxy hyn;have hyl:=M.le gs.length hyn (zuL _);have hHl:=D.len;have hlen:(H.take (hs x).length).length=(hs x).length:=by rw[zu0];omega
   have Rp:=R.part (x:=(hs x).length) (n:=(hs y).length) hxl (by omega) (D.nmTo M hmx (by omega));refine zgS (hcall _ (hG _ _ _ _ _ R hgd)) Rp (by rw[hlen];exact hFx) d3 d3' hst fun ρ1 w1 q1 q2 q3 q4=> ?_;rw[hlen] at q2;rw[hgl] at q4;have hag:∀q,Yb hs gs.length (fun k=>zo L (ord.getD k 0)) m q→(if q<(hs y).length then ρ1 q else ρ q)=ρ q:=by
    intro q hq;split
    ·rcases hdis q hq with h|h
     ·exact q2 q h
     ·omega
    ·rfl
   have Rj:=R.join hgl (by omega) q1 (fun q o hq ho=>qi hag (D.nmAll q o ho));have e4:=zj4 (ρ':=fun q=>if q<(hs y).length then ρ1 q else ρ q) q4 (Qu q4) (jn (fun q hq=>zuO hq) (Qu q4));rw[←e4.2];refine hKK _ w1 (fun q o ho=>by have:=(q1.obj q o ho).nm;rw[hgl] at this;exact this) Rj hag (fun q hq=> ?_) e4.1;show(if q<(hs y).length then ρ1 q else ρ q)=ρ q;rw[zuO (by omega)];exact q2 q hq
  unfold Go.wpOp;rw[hopi];simp only;have hFw:FrR ρ (hs (max m i)).length N (zl (zI g) (frs i)) a:=hF;rw[zbk hFw hcg (T.wantOk i g hg)];cases hwi:want i with
  |false=>
   simp only[zva,if_false];obtain⟨t1,t2,t3⟩:=T.off i g hg hwi;have:=hstay ρ w t2 R (fun _ _=>rfl) (fun _ _=>rfl) (by rw[t1];intro v hv;cases hv) (by rw[t1];trivial);rw[t1] at this;exact this
  |true=>
   simp only[if_true];obtain⟨t1,t2⟩:=T.on i g hg hwi
   have hpair:∀k,k<gs.length→hs (k+1)≠hs k→k≠i→Yw g.op=true→paE g.op=false→(k<i∨∃gk,gs[k]? =some gk∧paE gk.op=false)→Bf ops (ord.getD k 0) (ord.getD i 0)=false→Bf ops (ord.getD i 0) (ord.getD k 0)=false→
    (zK call (zl (zI g) (frs i)) (hs k) g.op=some (val i,hs k)∧zK call (zl (zI g) (frs i)) (hs (k+1)) g.op=some (val i,hs (k+1))∧(yt g.op=true→hs (i+1)=hs i∧zdx (hs k).length (zl (zI g) (frs i))))∨(yt g.op=false∧zig (hs (k+1)).length (zl (zI g) (frs i)) g.op):=by
    intro k hk hne hki hl hpi hk3 hb1 hb2;obtain⟨gk,hgk,hwk,hch,_,htk⟩:=hstepk k hk hne;have h3:paE gk.op=false∨k<i:=by
     rcases hk3 with h|⟨g',h,h'⟩
     ·exact .inr h
     ·rw[hgk] at h;obtain rfl:=zuG h;exact .inl h'
    have:=zch hp _ (zl0 hg hgk hl hpi hch (Ne.symm hki) hb1 hb2 h3);unfold qb at this;simp only[t2,htk] at this;rcases this with h|h
    ·exact absurd h hne
    ·exact h
   have hnotB:∀{x y:Nat},¬(Bf ops x y=true)→Bf ops x y=false:=fun h=>by simpa using h
   cases hpi:paE g.op with
   |true=>
    --one object of its own,maybe ahead of its turn
    have hst:=t1;unfold zK at hst;rw[zgC hpi] at hst;obtain⟨ob,mk,e1,e2,e3,e4,e5⟩:=zkP hpi hst;have hne:hs (i+1)≠hs i:=by rw[e1];intro h;have:=congrArg List.length h;rw[zuM,zuS] at this;omega
    have hmi:m≤i:=by apply Classical.byContradiction;intro hq;exact hnl (h1 i (by omega) hne)
    have hmax:max m i=i:=by omega
    rw[hmax] at hF;have hli:(hs (i+1)).length=(hs i).length+1:=by rw[e1,zuM,zuS]
    have hiN:=M.le gs.length (x:=i+1) hil (zuL _);have hmil:=M.le i hmi (by omega);have hHl:=D.len;have htl:(H.take (hs i).length).length=(hs i).length:=by rw[zu0];omega
    have hkne:∀k,j5 hs gs.length (fun k=>zo L (ord.getD k 0)) m k→(hs k).length≠(hs i).length:=by
     intro k hk he;rcases zxs k i with hlt|rfl|hgt
     ·have:=hk.lens M hpa;have:=M.le i (x:=k+1) hlt (by omega);omega
     ·exact hnl hk.2.2.1
     ·have:=M.le k (x:=i+1) hgt (by have:=hk.2.1;omega);omega
    have hst':zK call (zl (zI g) (frs i)) (H.take (hs i).length) g.op=some (val i,H.take (hs i).length++[ob]):=by unfold zK;rw[zgC hpi];have:=e3 (H.take (hs i).length);rw[htl,←e2] at this;exact this
    refine .inl (hrun i (i+1) _ hmi (zw8 _) hil (fun q hq=> ?_) (by rw[zuM,htl,zuS,hli]) hst' hF _ fun ρ' w' q0 q1 q2 q3 q4=> ?_)
    ·rcases hq with hq|⟨k,hk,rfl⟩
     ·exact .inl (by omega)
     ·have:=hkne k hk;omega
    ·--the heap behind it
     have hH':∀q,(H.take (hs i).length++[ob]++H.drop (hs (i+1)).length)[q]? =if q=(hs i).length then some ob else H[q]? :=by
      intro q;rcases zxs q (hs i).length with hlt|rfl|hgt
      ·rw[zvc,zct (by omega) hlt,zuQ (by omega)]
      ·rw[zuO rfl,zuK (by rw[zuM,htl,zuS];omega),zuN (by omega),htl,zvG];rfl
      ·rw[zuQ (by omega),zuN (by rw[zuM,htl,zuS];omega),zvH,zuM,htl,zuS,hli];congr 1;omega
     have hEa:∀k,j5 hs gs.length (fun k=>zo (L.setIfInBounds (ord.getD i 0) true) (ord.getD k 0)) m k↔k=i∨j5 hs gs.length (fun k=>zo L (ord.getD k 0)) m k:=by
      intro k;constructor
      ·rintro⟨k1,k2,k3,k4⟩;exact((hls k2).1 k3).imp id fun k3=>⟨k1,k2,k3,k4⟩
      ·rintro(rfl|⟨k1,k2,k3,k4⟩)
       ·exact⟨hmi,hil,(hls hil).2 (.inl rfl),hne⟩
       ·exact⟨k1,k2,(hls k2).2 (.inr k3),k4⟩
     have hLa:∀q,Yb hs gs.length (fun k=>zo L (ord.getD k 0)) m q→Yb hs gs.length (fun k=>zo (L.setIfInBounds (ord.getD i 0) true) (ord.getD k 0)) m q:=by
      rintro q (h|⟨k,hk,h⟩)
      ·exact .inl h
      ·exact .inr ⟨k,(hEa k).2 (.inr hk),h⟩
     have hLi':Yb hs gs.length (fun k=>zo (L.setIfInBounds (ord.getD i 0) true) (ord.getD k 0)) m (hs i).length:= .inr ⟨i,(hEa i).2 (.inl rfl),rfl⟩;refine ih _ _ _ ⟨hsize',hclosed',(hsz _).1,(hsz _).2,ρ',m,_,hm,hcan,fun k hk hne=>(hls (by omega)).2 (.inr (h1 k hk hne)),fun k gk hk hgk hlk hne'=> ?_,?_,q1,fun q hq=> ?_,?_⟩ hfuel'
     ·rcases(hls (zuJ.1 hgk).1).1 hlk with rfl|hlk
      ·rw[hg] at hgk;obtain rfl:=zuG hgk;exact hpi
      ·exact h2 k gk hk hgk hlk hne'
     ·refine⟨?_,fun q hq=> ?_,D.onm,fun k hk=> ?_,fun k o hk ho=> ?_,fun q q1 q2 q3=> ?_⟩
      ·rw[zuM,zuM,htl,zuS,zvQ,hli];omega
      ·rw[hH',zuQ (by omega)];exact D.old q hq
      ·rw[hH'];rcases(hEa k).1 hk with rfl|hk
       ·rw[zuO rfl,e1,zuN (zuL _),zvG];rfl
       ·rw[zuQ (hkne k hk)];exact D.early k hk
      ·rw[hH'] at ho;rcases(hEa k).1 hk with rfl|hk
       ·rw[zuO rfl] at ho;obtain rfl:=zuG ho;have hnl':=hd.nl k g hg;refine⟨e5 _ hnl' fun t v hv=> ?_,qi hLa (e5 _ hnl' hFlive)⟩;exact Qu (hF.get t v hv).2.2
       ·rw[zuQ (hkne k hk)] at ho;obtain⟨s1,s2⟩:=D.enm k o hk ho;exact⟨s1,qi hLa s2⟩
      ·rw[hH',zuQ (q3 i ((hEa i).2 (.inl rfl)))];exact D.dead q q1 q2 fun k hk=>q3 k ((hEa k).2 (.inr hk))
     ·exact(q3 q (by have:=M.le i (zws _) (by omega);omega)).trans (hE q hq)
     ·have hmx:max m (i+1)=i+1:=by omega
      refine hput ρ' m _ (zuL _) hm (fun q hq=>⟨q2 q hq,hLa q hq⟩) (by rw[hmx];exact q4) ?_;rw[e2];exact e4 _ _ hLi'
   |false=>
    --where it may be run:a heap of the machine's,of which all is there
    have hsrc:yt g.op=true→hs (i+1)=hs i→∃x,m≤x∧x≤max m i∧(∀k,m≤k→k<x→hs (k+1)≠hs k→zo L (ord.getD k 0))∧zK call (zl (zI g) (frs i)) (hs x) g.op=some (val i,hs x)∧FrR ρ (hs x).length N (zl (zI g) (frs i)) a:=by
     intro hch heff;have hl:=zb6 hch;rw[heff] at t1;rcases zwk i m with him|him
     ·rcases hcan with rfl|⟨k,gk,rfl,hgk,hpk,hne⟩
      ·omega
      ·have hki:k≠i:=fun e=>hne (e▸heff);have hkl:=h1 k (zwG _) hne;obtain⟨_,s2,s3⟩|⟨s3,_⟩:=hpair k (by omega) hne hki hl hpi (.inr ⟨gk,hgk,hpk⟩) (hnotB fun hb=>hnl (I.closed _ _ hkl hb)) (hnotB fun hb=>by have:=hlt i hil k (by omega) hb;omega)
       ·refine⟨k+1,zuL _,by omega,fun k' h1 h2=>by omega,s2,hFlt _ ?_⟩;have h3:=(s3 hch).2;have hlek:=M.step k (by omega);exact zby hlek h3
       ·rw[hch] at s3;cases s3
     ·have hmax:max m i=i:=by omega
      rw[hmax];by_cases hex:∃k,m≤k∧k<i∧hs (k+1)≠hs k∧¬zo L (ord.getD k 0)
      ·--the first one that is not done
       obtain⟨k,⟨k1,k2,k3,k4⟩,kmin⟩:=zdq (fun k=>m≤k∧k<i∧hs (k+1)≠hs k∧¬zo L (ord.getD k 0)) hex;obtain⟨s1,_,s3⟩|⟨s3,_⟩:=hpair k (by omega) k3 (by omega) hl hpi (.inl k2) (hnotB fun hb=>by have:=hlt k (by omega) i hil hb;omega) (hnotB fun hb=>k4 (hbef k hb))
       ·refine⟨k,k1,by omega,fun k' q1 q2 q3=> ?_,s1,hFlt _ (s3 hch).2⟩;apply Classical.byContradiction;intro hq;exact kmin k' q2 ⟨q1,by omega,q3,hq⟩
       ·rw[hch] at s3;cases s3
      ·refine⟨i,him,zuL _,fun k q1 q2 q3=> ?_,t1,by rw[hmax] at hF;exact hF⟩;apply Classical.byContradiction;intro hq;exact hex ⟨k,q1,q2,q3,hq⟩
    --what reads:the object that it reads is there as it was
    have hrd:Yw g.op=true→yt g.op=false→zK call (zl (zI g) (frs i)) (H.take (hs (max m i)).length) g.op=some (val i,H.take (hs (max m i)).length):=by
     intro hl hch;have heff:hs (i+1)=hs i:=Yy hch t1;have hnc:jA g.op=false:=JO hch;have hst:=t1;rw[heff] at hst
     --from a heap of the machine's where it is the same
     have key:∀x,zK call (zl (zI g) (frs i)) (hs x) g.op=some (val i,hs x)→(∀p,rdO (zl (zI g) (frs i)) g.op=some p→p<(hs (max m i)).length∧H[p]? =(hs x)[p]?)→zK call (zl (zI g) (frs i)) (H.take (hs (max m i)).length) g.op=some (val i,H.take (hs (max m i)).length):=by intro x hx hpx;unfold zK at hx⊢;rw[hnc] at hx⊢;refine zjE hch hx fun p hpr=> ?_;obtain⟨h1,h2⟩:=hpx p hpr;rw[zvh,zuO h1,h2]
     cases hpr:rdO (zl (zI g) (frs i)) g.op with
     |none=>exact key i hst fun p hq=>by rw[hpr] at hq;cases hq
     |some p=>
      have haft:∀n',zig n' (zl (zI g) (frs i)) g.op→n'≤p:=fun n' h=>by unfold zig at h;rw[hpr] at h;exact h
      have hpl:Yb hs gs.length (fun k=>zo L (ord.getD k 0)) m p:=zsp (hd.nl i g hg) hFlive hpr;have hpi':p<(hs (max m i)).length:=rd_lt (hd.nl i g hg) (fun t v hv=>Qu (hF.get t v hv).2.2) hpr;rcases hpl with hpm|⟨k,hk,hpk⟩
      ·--it was there
       rcases zwk i m with him|him
       ·rcases hcan with rfl|⟨k,gk,rfl,hgk,hpk,hne⟩
        ·omega
        ·have hki:k≠i:=fun e=>hne (e▸heff);have hkl:=h1 k (zwG _) hne;obtain⟨_,s2,_⟩|⟨_,s3⟩:=hpair k (by omega) hne hki hl hpi (.inr ⟨gk,hgk,hpk⟩) (hnotB fun hb=>hnl (I.closed _ _ hkl hb)) (hnotB fun hb=>by have:=hlt i hil k (by omega) hb;omega)
         ·exact key (k+1) s2 fun q hq=>by rw[hpr] at hq;obtain rfl:=zuG hq;exact⟨hpi',D.old p hpm⟩
         ·have:=haft _ s3;omega
       ·have hsame:∀x,m≤x→x≤i→(∀k,m≤k→k<x→hs (k+1)≠hs k→zo L (ord.getD k 0))→H[p]? =(hs x)[p]? :=by
         intro x x1 x2 x3;have hte:=D.take_eq M hpa x x1 (by omega) x3;have:=M.le x x1 (by omega);rw[←hte,zvh,zuO (by omega)]
        by_cases hex:∃k,m≤k∧k<i∧hs (k+1)≠hs k∧¬zo L (ord.getD k 0)
        ·obtain⟨k,⟨k1,k2,k3,k4⟩,kmin⟩:=zdq (fun k=>m≤k∧k<i∧hs (k+1)≠hs k∧¬zo L (ord.getD k 0)) hex;obtain⟨s1,_,_⟩|⟨_,s3⟩:=hpair k (by omega) k3 (by omega) hl hpi (.inl k2) (hnotB fun hb=>by have:=hlt k (by omega) i hil hb;omega) (hnotB fun hb=>k4 (hbef k hb))
         ·refine key k s1 fun q hq=> ?_;rw[hpr] at hq;obtain rfl:=zuG hq;refine⟨hpi',hsame k k1 (by omega) fun k' q1 q2 q3=> ?_⟩;apply Classical.byContradiction;intro hq;exact kmin k' q2 ⟨q1,by omega,q3,hq⟩
         ·have:=haft _ s3;have:=M.le (k+1) (x:=m) (by omega) (by omega);omega
        ·refine key i hst fun q hq=> ?_;rw[hpr] at hq;obtain rfl:=zuG hq;refine⟨hpi',hsame i him (zuL _) fun k q1 q2 q3=> ?_⟩;apply Classical.byContradiction;intro hq;exact hex ⟨k,q1,q2,q3,hq⟩
      ·--it was made ahead of its turn
       subst hpk;have hkl:=hk.lens M hpa;have hkN:=hk.2.1;have hki:k<i:=by apply Classical.byContradiction;intro hq;have:=M.le k (x:=max m i) (by have:=hk.1;omega) (by omega);omega
       have hEk:=D.early k hk
       --behind k:what changes there and makes no object of its own reads on
       have hsame:∀x,k+1≤x→x≤i→(∀j,k+1≤j→j<x→hs (j+1)≠hs j→∃gj,gs[j]? =some gj∧paE gj.op=true)→(hs x)[(hs k).length]? =(hs (k+1))[(hs k).length]? :=by
        intro x
        induction x with
        |zero=>intro h;omega
        |succ x ihx=>
         intro h1 h2 h3;by_cases e:k=x
         ·rw[e]
         ·have ihx:=ihx (by omega) (by omega) (fun j j1 j2=>h3 j j1 (by omega));by_cases hc:hs (x+1)=hs x
          ·rw[hc];exact ihx
          ·obtain⟨ob,hob⟩:=M.one x (by omega) (h3 x (by omega) (zwG _) hc) hc;have:=M.le x (x:=k+1) (by omega) (by omega);rw[hob,zuK (by omega)];exact ihx
       by_cases hex:∃j,k+1≤j∧j<i∧hs (j+1)≠hs j∧¬∃gj,gs[j]? =some gj∧paE gj.op=true
       ·obtain⟨j,⟨j1,j2,j3,j4⟩,jmin⟩:=zdq (fun j=>k+1≤j∧j<i∧hs (j+1)≠hs j∧¬∃gj,gs[j]? =some gj∧paE gj.op=true) hex;have jl:j<gs.length:=by omega
        have hgj:gs[j]? =some gs[j]:=zuV jl;have jnl:¬zo L (ord.getD j 0):=fun hlj=>j4 ⟨_,hgj,h2 j _ (by have:=hk.1;omega) hgj hlj j3⟩;obtain⟨s1,_,_⟩|⟨_,s3⟩:=hpair j jl j3 (by omega) hl hpi (.inl j2) (hnotB fun hb=>by have:=hlt j jl i hil hb;omega) (hnotB fun hb=>jnl (hbef j hb))
        ·refine key j s1 fun q hq=> ?_;rw[hpr] at hq;obtain rfl:=zuG hq;refine⟨hpi',hEk.trans (hsame j j1 (by omega) fun j' q1 q2 q3=> ?_).symm⟩;apply Classical.byContradiction;intro hq;exact jmin j' q2 ⟨q1,by omega,q3,hq⟩
        ·have:=haft _ s3;have:=M.le (j+1) (x:=k+1) (by omega) (by omega);omega
       ·refine key i hst fun q hq=> ?_;rw[hpr] at hq;obtain rfl:=zuG hq;refine⟨hpi',hEk.trans (hsame i hki (zuL _) fun j q1 q2 q3=> ?_).symm⟩;apply Classical.byContradiction;intro hq;exact hex ⟨j,q1,q2,q3,hq⟩
    cases hch:yt g.op with
    |false=>
     --it changes nothing
     have heff:hs (i+1)=hs i:=Yy hch t1;have hnc:jA g.op=false:=JO hch;have hst:zK call (zl (zI g) (frs i)) (H.take (hs (max m i)).length) g.op=some (val i,H.take (hs (max m i)).length):=by
      cases hl:Yw g.op with
      |false=>exact(zit hl t1).2 _
      |true=>exact hrd hl hch
     have hHl:=D.len;have hmN:=M.le gs.length (x:=max m i) (by omega) (zuL _);refine .inl (hrun (max m i) (max m i) _ (by omega) (zuL _) (by omega) (fun q _=>by omega) (by rw[zu0];omega) hst hF _ fun ρ' w' q0 q1 q2 q3 q4=> ?_);rw[zvj] at q1;refine hstay ρ' w' heff q1 q2 (fun q hq=>q3 q (by have:=M.le (max m i) (zws _) (by omega);omega)) (zbl (Ext.refl _ _) (M.le (max m (i+1)) (by omega) (by omega)) q4) ?_;unfold zK at hst;rw[hnc] at hst;exact op_nm hch (hd.nl i g hg) hFlive (fun p o hp ho=>D.nmLive p o hp (Qq ho).2) hst
    |true=>
     have hlook:=zb6 hch;by_cases heff:hs (i+1)=hs i
     ·obtain⟨x,x1,x2,x3,x4,x5⟩:=hsrc hch heff;have hxN:x≤gs.length:=by omega
      have hte:=D.take_eq M hpa x x1 hxN x3;refine .inl (hrun x x (hs x) x1 (zuL _) hxN (fun q _=>by omega) rfl (by rw[hte];exact x4) x5 _ fun ρ' w' q0 q1 q2 q3 q4=> ?_);have etd:=zvj (hs x).length H;rw[hte] at etd;rw[etd] at q1;refine hstay ρ' w' heff q1 q2 (fun q hq=>q3 q (by have:=M.le x (zws _) hxN;omega)) (zbl (Ext.refl _ _) (M.le (max m (i+1)) (by omega) (by omega)) q4) ?_;exact jn (fun q hq=>Pad.allLive M hpa x x1 hxN x3 q hq) (Qu q4)
     ·--it changes the heap:all ahead of it is done
      have hahead:∀k,k<i→hs (k+1)≠hs k→zo L (ord.getD k 0):=by
       intro k hk hne;apply Classical.byContradiction;intro hq;have:=hpair k (by omega) hne (by omega) hlook hpi (.inl hk) (hnotB fun hb=>by have:=hlt k (by omega) i hil hb;omega) (hnotB fun hb=>hq (hbef k hb));rcases this with this|⟨this,_⟩
       ·exact heff (this.2.2 hch).1
       ·rw[hch] at this;cases this
      have hmi:m≤i:=by apply Classical.byContradiction;intro hq;exact hnl (h1 i (by omega) heff)
      have hmax:max m i=i:=by omega
      rw[hmax] at hF;have hte:=D.take_eq M hpa i hmi (by omega) (fun k _ hk hne=>hahead k hk hne);have hiN:=M.le gs.length (x:=i+1) hil (zuL _);have hmil:=M.le i hmi (by omega);have hii:=M.step i hil;have hHl:=D.len;have hke:∀k,j5 hs gs.length (fun k=>zo L (ord.getD k 0)) m k→(k<i∧(hs k).length<(hs i).length)∨(i+1≤k∧(hs (i+1)).length≤(hs k).length):=by
       intro k hk;rcases zxs k i with hlt'|rfl|hgt
       ·have:=hk.lens M hpa;have:=M.le i (x:=k+1) hlt' (by omega);exact .inl ⟨hlt',by omega⟩
       ·exact absurd hk.2.2.1 hnl
       ·exact .inr ⟨hgt,M.le k (x:=i+1) hgt (by have:=hk.2.1;omega)⟩
      refine .inl (hrun i (i+1) (hs (i+1)) hmi (zw8 _) hil (fun q hq=> ?_) rfl (by rw[hte];exact t1) hF _ fun ρ' w' q0 q1 q2 q3 q4=> ?_)
      ·rcases hq with hq|⟨k,hk,rfl⟩
       ·exact .inl (by omega)
       ·rcases hke k hk with⟨_,h⟩|⟨_,h⟩
        ·exact .inl h
        ·exact .inr h
      ·have hEa:∀k,j5 hs gs.length (fun k=>zo (L.setIfInBounds (ord.getD i 0) true) (ord.getD k 0)) (i+1) k↔i+1≤k∧j5 hs gs.length (fun k=>zo L (ord.getD k 0)) m k:=by
        intro k;constructor
        ·rintro⟨k1,k2,k3,k4⟩;rcases(hls k2).1 k3 with rfl|k3
         ·omega
         ·exact⟨k1,by omega,k2,k3,k4⟩
        ·rintro⟨k1,k2,k3,k4,k5⟩;exact⟨k1,k3,(hls k3).2 (.inr k4),k5⟩
       have hLa:∀q,Yb hs gs.length (fun k=>zo L (ord.getD k 0)) m q→Yb hs gs.length (fun k=>zo (L.setIfInBounds (ord.getD i 0) true) (ord.getD k 0)) (i+1) q:=by
        rintro q (h|⟨k,hk,rfl⟩)
        ·exact .inl (by omega)
        ·rcases hke k hk with⟨_,h⟩|⟨h,_⟩
         ·exact .inl (by omega)
         ·exact .inr ⟨k,(hEa k).2 ⟨h,hk⟩,rfl⟩
       have hH':∀q,(hs (i+1)).length≤q→(hs (i+1)++H.drop (hs (i+1)).length)[q]? =H[q]? :=by intro q hq;rw[zuN hq,zvH];congr 1;omega
       have hob:=fun q o (ho:(hs (i+1))[q]? =some o)=>q1.obj q o (by rw[zuK (zuJ.1 ho).1];exact ho);refine ih _ _ _ ⟨hsize',hclosed',(hsz _).1,(hsz _).2,ρ',i+1,_,hil,.inr ⟨i,g,rfl,hg,hpi,heff⟩,fun k hk hne=> ?_,fun k gk hk hgk hlk hne'=> ?_,?_,q1,fun q hq=> ?_,?_⟩ hfuel'
       ·by_cases e:k=i
        ·exact(hls (by omega)).2 (.inl e)
        ·exact(hls (by omega)).2 (.inr (hahead k (by omega) hne))
       ·rcases(hls (zuJ.1 hgk).1).1 hlk with rfl|hlk
        ·omega
        ·exact h2 k gk (by omega) hgk hlk hne'
       ·refine⟨?_,fun q hq=> ?_,?_,fun k hk=> ?_,fun k o hk ho=> ?_,fun q q1 q2 q3=> ?_⟩
        ·rw[zuM,zvQ];omega
        ·rw[zuK hq]
        ·exact q0
        ·obtain⟨k1,k2⟩:=(hEa k).1 hk;rw[hH' _ (M.le k k1 (by have:=k2.2.1;omega))];exact D.early k k2
        ·obtain⟨k1,k2⟩:=(hEa k).1 hk;rw[hH' _ (M.le k k1 (by have:=k2.2.1;omega))] at ho;obtain⟨s1,s2⟩:=D.enm k o k2 ho;exact⟨s1,qi hLa s2⟩
        ·rw[hH' q q1];refine D.dead q (by omega) q2 fun k hk=> ?_;rcases hke k hk with⟨_,h⟩|⟨h,_⟩
         ·omega
         ·exact q3 k ((hEa k).2 ⟨h,hk⟩)
       ·exact(q3 q (by have:=M.le i (zws _) (by omega);omega)).trans (hE q hq)
       ·refine hput ρ' (i+1) _ (by omega) hil (fun q hq=>⟨q2 q hq,hLa q hq⟩) (by rw[Nat.max_self];exact q4) ?_;exact jn (fun q hq=> .inl hq) (Qu q4)
theorem Rel.deads(R:Rel P w0 ρ h w):∀d,Rel P w0 ρ (h++List.replicate d .dead) w
 |0=>by rw[List.replicate_zero,zvl];exact R
 |d+1=>by rw[List.replicate_succ',←zvc];exact(R.deads d).add .dead trivial (fun h=>by cases h) (fun h=>by cases h)
theorem zqg{G:Base→Prop}(hG:JG P G)(hgd:G w0)(hm:P.follows .mixedOrders=true){call:zU}(hcall:∀w0,G w0→ZE P w0 call)(hgrow:YA call){id:Nat}{ops:Array Oper}{ord:List Nat}{l0:List EG}(hc:Zh P N ops ops.toList=some l0)(hd:zfV ops ord (Yl ord l0)=true){fr':Fr}{h':LH}
 (he:Zs call (Yl ord l0) (za3 ops ord (Yl ord l0)) fr h=some (fr',h'))
 (R:Rel P w0 ρ h w) (hF:FrR ρ h.length N fr a) (hQ:∀ρ' a' w',Rel P w0 ρ' h' w'→FrR ρ' h'.length N fr' a'→Ext h.length ρ ρ'→h.length≤h'.length→Q .normal a' w'):(Code.region id ops true).wp P Q a w:=by
 have hd:=zlA hc hd;generalize Yl ord l0=gs at hd he;unfold Zs at he;split at he
 ·rename_i tr fr1 h1 htr;split at he
  ·rename_i hp;simp only[zuE,zuH] at he;obtain⟨rfl,rfl⟩:=he;obtain⟨frs,hs,val,want,T⟩:=zen gs fr h tr fr1 h1 htr;refine wp_region_any hm ?_;have hno:∀j,¬zo (Array.replicate ops.size false) j:=by
    intro j hj;unfold zo at hj;rw[zvF,Array.getElem?_replicate] at hj;split at hj<;>cases hj
   have R0:Rel P w0 ρ h (w.drewN 1):=R.drewN 1;have hgr:h.length≤(hs gs.length).length:=by rw[T.hN];exact Jh hgrow _ _ _ _ _ _ htr
   refine znm hG hgd hcall hgrow hd T hp rfl (ρ0:=ρ) hQ ops.size _ a _ ⟨by simp,fun x y hk=>absurd hk (hno x),hF.size,hF.defers,?_⟩ ?_
   ·refine⟨ρ,0,h++List.replicate ((hs gs.length).length-h.length) .dead,zws _,.inl rfl,fun k hk=>by omega,fun k g _ _ hk=>absurd hk (hno _),?_,R0.deads _,Ext.refl _ _,?_⟩
    ·refine⟨by rw[zuM,List.length_replicate];omega,fun q hq=> ?_,fun q o ho=> ?_,fun k hk=>absurd hk.2.2.1 (hno _),fun k o hk=>absurd hk.2.2.1 (hno _),fun q q1 q2 q3=> ?_⟩
     ·rw[T.h0] at hq⊢;rw[zuK hq]
     ·rw[T.h0] at ho⊢;exact(R.obj q o ho).nm
     ·rw[T.h0] at q1;rw[zuN q1,List.getElem?_replicate,zuO (by omega)]
    ·rintro t v p (⟨i,g,q1,_⟩|⟨_,q2,rfl⟩)
     ·exact absurd q1 (hno _)
     ·obtain⟨r1,r2,r3⟩:=hF.get t v q2;refine⟨r1,r2,by rw[Nat.max_self,T.h0];exact r3,jn (fun q hq=> .inl (by rw[T.h0];exact hq)) (Qu r3),zws _⟩
   ·have:=zv6 (fun i=> !(Array.replicate ops.size false).getD i false) (List.range gs.length);rw[zxQ] at this;have:=hd.size;omega
  ·cases he
 ·cases he
end
end
section
variable {P:Program} {w0:Base}
def zf2:Ex→Exit
 | .normal=> .normal
 | .exit id=> .exit id
 | .goto l=> .goto l
 | .ret=> .ret
section
variable {N:Nat}
theorem zcE:∀(c:Code) (hs:List (List Nat)) (ec:EC) (hs':List (List Nat)),yu P N c hs=some (ec,hs')→∀l,Yt ec l=(findLabel c l).isSome:=by
 intro c
 induction c with
 |seq x y ihx ihy=>
  intro hs ec hs' hc l;simp only[yu] at hc;split at hc
  ·rename_i x' hs1 hx;obtain⟨⟨y',hs2⟩,hy,hq⟩:=zuI.1 hc;obtain⟨rfl,rfl⟩:=zuZ hq;simp only[Yt,findLabel,ihx _ _ _ hx l,ihy _ _ _ hy l];cases findLabel x l<;>simp
  ·cases hc
 |label l'=>
  intro hs ec hs' hc l;simp only[yu,zuE,zuH] at hc;obtain⟨rfl,rfl⟩:=hc;simp only[Yt,findLabel];cases l'==l<;>rfl
 |region id ops dr=>
  intro hs ec hs' hc l;cases dr with
  |false=>
   simp only[yu] at hc;obtain⟨l',hl,hq⟩:=zuI.1 hc;obtain⟨rfl,rfl⟩:=zuZ hq;rfl
  |true=>
   simp only[yu] at hc;split at hc
   ·split at hc
    ·obtain⟨rfl,rfl⟩:=zuZ (zuG hc);rfl
    ·cases hc
   ·cases hc
 |cond c x y ihx ihy=>
  intro hs ec hs' hc l;simp only[yu] at hc;split at hc
  ·obtain⟨⟨y',hs2⟩,hy,hq⟩:=zuI.1 hc;obtain⟨rfl,rfl⟩:=zuZ hq;rfl
  ·cases hc
 |block id b ih=>
  intro hs ec hs' hc l;simp only[yu] at hc;obtain⟨⟨b',hs1⟩,hb,hq⟩:=zuI.1 hc;obtain⟨rfl,rfl⟩:=zuZ hq;rfl
 |loop b ih=>
  intro hs ec hs' hc l;simp only[yu] at hc;obtain⟨⟨b',hs1⟩,hb,hq⟩:=zuI.1 hc;obtain⟨rfl,rfl⟩:=zuZ hq;rfl
 |scope b ih=>
  intro hs ec hs' hc l;simp only[yu] at hc;obtain⟨⟨b',hs1⟩,hb,hq⟩:=zuI.1 hc;obtain⟨rfl,rfl⟩:=zuZ hq;rfl
 |exit id=>
  intro hs ec hs' hc l;simp only[yu,zuE,zuH] at hc;obtain⟨rfl,rfl⟩:=hc;rfl
 |goto id=>
  intro hs ec hs' hc l;simp only[yu,zuE,zuH] at hc;obtain⟨rfl,rfl⟩:=hc;rfl
 |ret=>
  intro hs ec hs' hc l;simp only[yu,zuE,zuH] at hc;obtain⟨rfl,rfl⟩:=hc;rfl
 |skip=>
  intro hs ec hs' hc l;simp only[yu,zuE,zuH] at hc;obtain⟨rfl,rfl⟩:=hc;rfl
 |_=>
  intro hs ec hs' hc;simp only[yu] at hc;cases hc
theorem znf{G:Base→Prop}(hG:JG P G)(hg:G w0)(hm:P.follows .mixedOrders=true){call:zU}(hcall:∀w0,G w0→ZE P w0 call)(hgrow:YA call)(n:Nat):∀(c:Code) (hs:List (List Nat)) (ec:EC) (hs':List (List Nat)),yu P N c hs=some (ec,hs')→
 (∀(fr:Fr) (h:LH) (ex:Ex) (fr':Fr) (h':LH),zp call n ec fr h=some (ex,fr',h')→∀(ρ:Nat→Ph) (a:Act) (w:World),Rel P w0 ρ h w→FrR ρ h.length N fr a→
 ∀(Q:Exit→Act→World→Prop),(∀ρ' a' w',Rel P w0 ρ' h' w'→FrR ρ' h'.length N fr' a'→Ext h.length ρ ρ'→h.length≤h'.length→Q (zf2 ex) a' w')→c.wp P Q a w)∧
 ∀(l:Nat) (rest:Code),findLabel c l=some rest→∀(fr:Fr) (h:LH) (ex:Ex) (fr':Fr) (h':LH),zM call n ec l fr h=some (ex,fr',h')→∀(ρ:Nat→Ph) (a:Act) (w:World),Rel P w0 ρ h w→FrR ρ h.length N fr a→
 ∀(Q:Exit→Act→World→Prop),(∀ρ' a' w',Rel P w0 ρ' h' w'→FrR ρ' h'.length N fr' a'→Ext h.length ρ ρ'→h.length≤h'.length→Q (zf2 ex) a' w')→rest.wp P Q a w:=by
 intro c
 induction c with
 |skip=>
  intro hs ec hs' hc;refine⟨?_,fun l rest hf=>by simp only[findLabel] at hf;cases hf⟩;intro fr h ex fr' h' he ρ a w R hF Q hQ;simp only[yu,zuE,zuH] at hc;obtain⟨rfl,rfl⟩:=hc;simp only[zp,zuE,zuH] at he;obtain⟨rfl,rfl,rfl⟩:=he;exact wp_skip (hQ ρ a w R hF (Ext.refl _ _) (zuL _))
 |region id ops dr=>
  intro hs ec hs' hc;refine⟨?_,fun l rest hf=>by simp only[findLabel] at hf;cases hf⟩;intro fr h ex fr' h' he ρ a w R hF Q hQ;cases dr with
  |false=>
   simp only[yu] at hc;obtain⟨l,hl,hq⟩:=zuI.1 hc;obtain⟨rfl,rfl⟩:=zuZ hq;simp only[zp] at he;obtain⟨⟨fr1,h1⟩,h2,hq⟩:=zuI.1 he;simp only[zuH] at hq;obtain⟨rfl,rfl,rfl⟩:=hq;exact wp_region_list (zbP (hcall w0 hg) ops.toList l fr h _ _ ρ a w hl h2 R hF fun ρ' a' w' q1 q2=>hQ ρ' a' w' q1 (q2.keep _))
  |true=>
   simp only[yu] at hc;split at hc
   ·rename_i l hl;split at hc
    ·rename_i hd;obtain⟨rfl,rfl⟩:=zuZ (zuG hc);simp only[zp] at he;obtain⟨⟨fr1,h1⟩,h2,hq⟩:=zuI.1 he;simp only[zuH] at hq;obtain⟨rfl,rfl,rfl⟩:=hq;exact zqg hG hg hm hcall hgrow hl hd h2 R hF fun ρ' a' w' q1 q2=>hQ ρ' a' w' q1 (q2.keep _)
    ·cases hc
   ·cases hc
 |seq x y ihx ihy=>
  intro hs ec hs' hc;simp only[yu] at hc;split at hc
  ·rename_i x' hs1 hx;obtain⟨⟨y',hs2⟩,hy,hq⟩:=zuI.1 hc;obtain⟨rfl,rfl⟩:=zuZ hq;refine⟨fun fr h ex fr' h' he ρ a w R hF Q hQ=> ?_,fun l rest hf fr h ex fr' h' he ρ a w R hF Q hQ=> ?_⟩
   ·simp only[zp] at he;refine wp_seq ?_;split at he
    ·rename_i fr1 h1 he1;refine(ihx _ _ _ hx).1 fr h _ fr1 h1 he1 ρ a w R hF _ (fun ρ1 a1 w1 q1 q2 q3 q4=> ?_);exact(ihy _ _ _ hy).1 fr1 h1 ex fr' h' he ρ1 a1 w1 q1 q2 Q (fun ρ2 a2 w2 r1 r2 r3 r4=>hQ ρ2 a2 w2 r1 r2 (q3.trans q4 r3) (by omega))
    ·rename_i hne;refine(ihx _ _ _ hx).1 fr h ex fr' h' he ρ a w R hF _ (fun ρ1 a1 w1 q1 q2 q3 q4=> ?_);have:=hQ ρ1 a1 w1 q1 q2 q3 q4;cases ex with
     |normal=>exact absurd he (hne _ _)
     |exit id=>exact this
     |goto l=>exact this
     |ret=>exact this
   ·simp only[zM] at he;simp only[findLabel] at hf;rw[zcE _ _ _ _ hx l] at he;cases hfx:findLabel x l with
    |some r1=>
     rw[hfx] at hf he;obtain rfl:=zuG hf;simp only[Option.isSome_some,if_true] at he;refine wp_seq ?_;split at he
     ·rename_i fr1 h1 he1;refine(ihx _ _ _ hx).2 l _ hfx fr h _ fr1 h1 he1 ρ a w R hF _ (fun ρ1 a1 w1 q1 q2 q3 q4=> ?_);exact(ihy _ _ _ hy).1 fr1 h1 ex fr' h' he ρ1 a1 w1 q1 q2 Q (fun ρ2 a2 w2 r1 r2 r3 r4=>hQ ρ2 a2 w2 r1 r2 (q3.trans q4 r3) (by omega))
     ·rename_i hne;refine(ihx _ _ _ hx).2 l _ hfx fr h ex fr' h' he ρ a w R hF _ (fun ρ1 a1 w1 q1 q2 q3 q4=> ?_);have:=hQ ρ1 a1 w1 q1 q2 q3 q4;cases ex with
      |normal=>exact absurd he (hne _ _)
      |exit id=>exact this
      |goto l=>exact this
      |ret=>exact this
    |none=>
     rw[hfx] at hf he;simp only[zxN,zva,if_false] at he;exact(ihy _ _ _ hy).2 l rest hf fr h ex fr' h' he ρ a w R hF Q hQ
  ·cases hc
 |cond c x y ihx ihy=>
  intro hs ec hs' hc;refine⟨?_,fun l rest hf=>by simp only[findLabel] at hf;cases hf⟩;intro fr h ex fr' h' he ρ a w R hF Q hQ;simp only[yu] at hc;split at hc
  ·rename_i c' x' hs1 hcc hx;obtain⟨⟨y',hs2⟩,hy,hq⟩:=zuI.1 hc;obtain⟨rfl,rfl⟩:=zuZ hq;simp only[zp] at he;split at he
   ·rename_i t ht;obtain⟨e1,_⟩:=zh hF hcc ht;refine wp_cond (t:=t) (by rw[e1];rfl) ?_;cases t with
    |true=>exact(ihx _ _ _ hx).1 fr h ex fr' h' he ρ a w R hF Q hQ
    |false=>exact(ihy _ _ _ hy).1 fr h ex fr' h' he ρ a w R hF Q hQ
   ·cases he
  ·cases hc
 |block id b ih=>
  intro hs ec hs' hc;refine⟨?_,fun l rest hf=>by simp only[findLabel] at hf;cases hf⟩;intro fr h ex fr' h' he ρ a w R hF Q hQ;simp only[yu] at hc;obtain⟨⟨b',hs1⟩,hb,hq⟩:=zuI.1 hc;obtain⟨rfl,rfl⟩:=zuZ hq;simp only[zp] at he;refine wp_block ?_;split at he
  ·rename_i id' fr1 h1 he1;refine(ih _ _ _ hb).1 fr h _ fr1 h1 he1 ρ a w R hF _ (fun ρ1 a1 w1 q1 q2 q3 q4=> ?_);simp only[zf2,Exit.inBlock];split at he
   ·rename_i hid;simp only[zuE,zuH] at he;obtain⟨rfl,rfl,rfl⟩:=he;rw[zuO hid];exact hQ ρ1 a1 w1 q1 q2 q3 q4
   ·rename_i hid;simp only[zuE,zuH] at he;obtain⟨rfl,rfl,rfl⟩:=he;rw[zuQ hid];exact hQ ρ1 a1 w1 q1 q2 q3 q4
  ·rename_i hne;refine(ih _ _ _ hb).1 fr h ex fr' h' he ρ a w R hF _ (fun ρ1 a1 w1 q1 q2 q3 q4=> ?_);have:=hQ ρ1 a1 w1 q1 q2 q3 q4;cases ex with
   |normal=>exact this
   |exit id=>exact absurd he (hne _ _ _)
   |goto l=>exact this
   |ret=>exact this
 |loop b ih=>
  intro hs ec hs' hc;refine⟨?_,fun l rest hf=>by simp only[findLabel] at hf;cases hf⟩;intro fr h ex fr' h' he ρ a w R hF Q hQ;simp only[yu] at hc;obtain⟨⟨b',hs1⟩,hb,hq⟩:=zuI.1 hc;obtain⟨rfl,rfl⟩:=zuZ hq;simp only[zp] at he;refine wp_loop_rounds n ?_
  have key:∀(m:Nat) (fr:Fr) (h:LH) (ρ:Nat→Ph) (a:Act) (w:World),j7 (zp call n b') (jr hs).1 m fr h=some (ex,fr',h')→Rel P w0 ρ h w→FrR ρ h.length N fr a→
   (∀ρ' a' w',Rel P w0 ρ' h' w'→FrR ρ' h'.length N fr' a'→Ext h.length ρ ρ'→h.length≤h'.length→Q (zf2 ex) a' w')→Code.rounds P b Q m a w:=by
   intro m
   induction m with
   |zero=>intro fr h ρ a w he;cases he
   |succ m ihm=>
    intro fr h ρ a w he R hF hQ;simp only[j7] at he;rw[rounds_succ];split at he
    ·rename_i fr1 h1 he1;refine(ih _ _ _ hb).1 _ h _ fr1 h1 he1 ρ a w R (hF.keep _) _ (fun ρ1 a1 w1 q1 q2 q3 q4=> ?_);exact ihm fr1 h1 ρ1 a1 w1 he q1 q2 (fun ρ2 a2 w2 r1 r2 r3 r4=>hQ ρ2 a2 w2 r1 r2 (q3.trans q4 r3) (by omega))
    ·rename_i hne;refine(ih _ _ _ hb).1 _ h ex fr' h' he ρ a w R (hF.keep _) _ (fun ρ1 a1 w1 q1 q2 q3 q4=> ?_);have:=hQ ρ1 a1 w1 q1 q2 q3 q4;cases ex with
     |normal=>exact absurd he (hne _ _)
     |exit id=>exact this
     |goto l=>exact this
     |ret=>exact this
  exact key n fr h ρ a w he R hF hQ
 |exit id=>
  intro hs ec hs' hc;refine⟨?_,fun l rest hf=>by simp only[findLabel] at hf;cases hf⟩;intro fr h ex fr' h' he ρ a w R hF Q hQ;simp only[yu,zuE,zuH] at hc;obtain⟨rfl,rfl⟩:=hc;simp only[zp,zuE,zuH] at he;obtain⟨rfl,rfl,rfl⟩:=he;exact wp_exit (hQ ρ a w R (hF.keep _) (Ext.refl _ _) (zuL _))
 |ret=>
  intro hs ec hs' hc;refine⟨?_,fun l rest hf=>by simp only[findLabel] at hf;cases hf⟩;intro fr h ex fr' h' he ρ a w R hF Q hQ;simp only[yu,zuE,zuH] at hc;obtain⟨rfl,rfl⟩:=hc;simp only[zp,zuE,zuH] at he;obtain⟨rfl,rfl,rfl⟩:=he;exact wp_ret (hQ ρ a w R (hF.keep _) (Ext.refl _ _) (zuL _))
 |label l'=>
  intro hs ec hs' hc;simp only[yu,zuE,zuH] at hc;obtain⟨rfl,rfl⟩:=hc;refine⟨fun fr h ex fr' h' he ρ a w R hF Q hQ=> ?_,fun l rest hf fr h ex fr' h' he ρ a w R hF Q hQ=> ?_⟩
  ·simp only[zp,zuE,zuH] at he;obtain⟨rfl,rfl,rfl⟩:=he;exact wp_label (hQ ρ a w R hF (Ext.refl _ _) (zuL _))
  ·simp only[zM] at he;simp only[findLabel] at hf;split at he
   ·rename_i hl;rw[zuO hl] at hf;obtain rfl:=zuG hf;simp only[zuE,zuH] at he;obtain⟨rfl,rfl,rfl⟩:=he;exact wp_skip (hQ ρ a w R hF (Ext.refl _ _) (zuL _))
   ·cases he
 |goto l=>
  intro hs ec hs' hc;refine⟨?_,fun l rest hf=>by simp only[findLabel] at hf;cases hf⟩;intro fr h ex fr' h' he ρ a w R hF Q hQ;simp only[yu,zuE,zuH] at hc;obtain⟨rfl,rfl⟩:=hc;simp only[zp,zuE,zuH] at he;obtain⟨rfl,rfl,rfl⟩:=he;exact wp_goto (hQ ρ a w R (hF.keep _) (Ext.refl _ _) (zuL _))
 |scope c ih=>
  intro hs ec hs' hc;refine⟨?_,fun l rest hf=>by simp only[findLabel] at hf;cases hf⟩;simp only[yu] at hc;obtain⟨⟨c',hs1⟩,hb,hq⟩:=zuI.1 hc;obtain⟨rfl,rfl⟩:=zuZ hq;intro fr h ex fr' h' he ρ a w R hF Q hQ b k cs;simp only[zp] at he;obtain⟨ih1,ih2⟩:=ih _ _ _ hb
  have key:∀(m:Nat) (m0:Machine) (ex0:Ex) (fr0:Fr) (h0:LH) (ρ0:Nat→Ph) (a0:Act) (w0':World),ye (zM call n c') (Yt c') m (some (ex0,fr0,h0))=some (ex,fr',h')→Rel P w0 ρ0 h0 w0'→FrR ρ0 h0.length N fr0 a0→Ext h.length ρ ρ0→h.length≤h0.length→
   Arrives P m0 b (.inScope c::k) cs (zf2 ex0) a0 w0'→∃e a' w',Q e a' w'∧Arrives P m0 b k cs e a' w':=by
   intro m
   induction m with
   |zero=>
    intro m0 ex0 fr0 h0 ρ0 a0 w0' he R0 F0 E0 L0 ha;unfold ye at he;split at he
    ·rename_i l fr1 h1 e;simp only[zuE,zuH] at e;obtain⟨rfl,rfl,rfl⟩:=e;split at he
     ·cases he
     ·rename_i hl;simp only[zuE,zuH] at he;obtain⟨rfl,rfl,rfl⟩:=he;rw[zcE _ _ _ _ hb l] at hl;have hn:findLabel c l=none:=by
       cases hfl:findLabel c l with
       |none=>rfl
       |some r=>rw[hfl] at hl;exact absurd rfl hl
      exact⟨_,_,_,hQ _ _ _ R0 F0 E0 L0,fun k' hk=>ha k' (by simp only[gotoIn,hn];exact hk)⟩
    ·rename_i hne;simp only[zuE,zuH] at he;obtain⟨rfl,rfl,rfl⟩:=he;refine⟨_,_,_,hQ _ _ _ R0 F0 E0 L0,?_⟩;cases ex0 with
     |normal=>exact Steps.trans ha (.one step_inScope)
     |exit id=>exact fun k' hk=>ha k' (by simp[exitTo,hk])
     |goto l=>exact absurd rfl (hne l _ _)
     |ret=>exact ha
   |succ m ihm=>
    intro m0 ex0 fr0 h0 ρ0 a0 w0' he R0 F0 E0 L0 ha;unfold ye at he;split at he
    ·rename_i l fr1 h1 e;simp only[zuE,zuH] at e;obtain⟨rfl,rfl,rfl⟩:=e;split at he
     ·rename_i hl;rw[zcE _ _ _ _ hb l] at hl;obtain⟨rest,hr⟩:=zv3.1 hl;cases hat:zM call n c' l fr0 h0 with
      |none=>rw[hat] at he;unfold ye at he;cases he
      |some r=>
       obtain⟨ex1,fr1,h1⟩:=r;rw[hat] at he;have hst:=ha (.code rest:: .inScope c::k) (by simp[gotoIn,hr]);obtain⟨e1,a1,w1,⟨ρ1,rfl,R1,F1,E1,L1⟩,har⟩:=ih2 l rest hr fr0 h0 ex1 fr1 h1 hat ρ0 a0 w0' R0 F0 (fun e a' w'=>∃ρ1,e=zf2 ex1∧Rel P w0 ρ1 h1 w'∧FrR ρ1 h1.length N fr1 a'∧Ext h0.length ρ0 ρ1∧h0.length≤h1.length) (fun ρ1 a1 w1 q1 q2 q3 q4=>⟨ρ1,rfl,q1,q2,q3,q4⟩) b (.inScope c::k) cs;obtain⟨e2,a2,w2,hq2,har2⟩:=ihm _ _ _ _ _ _ _ he R1 F1 (E0.trans L0 E1) (zvz L0 L1) har;exact⟨e2,a2,w2,hq2,.of_steps hst har2⟩
     ·rename_i hl;simp only[zuE,zuH] at he;obtain⟨rfl,rfl,rfl⟩:=he;rw[zcE _ _ _ _ hb l] at hl;have hn:findLabel c l=none:=by
       cases hfl:findLabel c l with
       |none=>rfl
       |some r=>rw[hfl] at hl;exact absurd rfl hl
      exact⟨_,_,_,hQ _ _ _ R0 F0 E0 L0,fun k' hk=>ha k' (by simp only[gotoIn,hn];exact hk)⟩
    ·rename_i hne;simp only[zuE,zuH] at he;obtain⟨rfl,rfl,rfl⟩:=he;refine⟨_,_,_,hQ _ _ _ R0 F0 E0 L0,?_⟩;cases ex0 with
     |normal=>exact Steps.trans ha (.one step_inScope)
     |exit id=>exact fun k' hk=>ha k' (by simp[exitTo,hk])
     |goto l=>exact absurd rfl (hne l _ _)
     |ret=>exact ha
  cases hr:zp call n c' fr h with
  |none=>rw[hr] at he;unfold ye at he;cases he
  |some r=>
   obtain⟨ex1,fr1,h1⟩:=r;rw[hr] at he;obtain⟨e1,a1,w1,⟨ρ1,rfl,R1,F1,E1,L1⟩,har⟩:=ih1 fr h ex1 fr1 h1 hr ρ a w R hF (fun e a' w'=>∃ρ1,e=zf2 ex1∧Rel P w0 ρ1 h1 w'∧FrR ρ1 h1.length N fr1 a'∧Ext h.length ρ ρ1∧h.length≤h1.length) (fun ρ1 a1 w1 q1 q2 q3 q4=>⟨ρ1,rfl,q1,q2,q3,q4⟩) b (.inScope c::k) cs;obtain⟨e2,a2,w2,hq2,har2⟩:=key n _ _ _ _ _ _ _ he R1 F1 E1 L1 har;exact⟨e2,a2,w2,hq2,.of_steps (.one step_scope) har2⟩
 |_=>
  intro hs ec hs' hc;simp only[yu] at hc;cases hc
theorem zcy{G:Base→Prop}(hG:JG P G)(hg:G w0)(hm:P.follows .mixedOrders=true){call:zU}(hcall:∀w0,G w0→ZE P w0 call)(hgrow:YA call)(n:Nat)(c:Code)(hs:List (List Nat))(ec:EC)(hs':List (List Nat))(hc:yu P N c hs=some (ec,hs'))
 (fr:Fr) (h:LH) (ex:Ex) (fr':Fr) (h':LH) (he:zp call n ec fr h=some (ex,fr',h')) (ρ:Nat→Ph) (a:Act) (w:World) (R:Rel P w0 ρ h w) (hF:FrR ρ h.length N fr a)
 (Q:Exit→Act→World→Prop) (hQ:∀ρ' a' w',Rel P w0 ρ' h' w'→FrR ρ' h'.length N fr' a'→Ext h.length ρ ρ'→h.length≤h'.length→Q (zf2 ex) a' w'):c.wp P Q a w:=
 (znf hG hg hm hcall hgrow n c hs ec hs' hc).1 fr h ex fr' h' he ρ a w R hF Q hQ
theorem zaU:∀(args:List FV) (k:Nat) (t:Nat) (v:FV),yq (jj k args) t=some v→k≤t∧args[t-k]? =some v
 |[],k,t,v,h=>by cases h
 |u::r,k,t,v,h=>by
  simp only[jj,yq] at h;by_cases e:t=k
  ·rw[zuO e] at h;subst e;obtain rfl:=zuG h;exact⟨zuL _,by simp⟩
  ·rw[zuQ e] at h;obtain⟨q1,q2⟩:=zaU r (k+1) t v h;exact⟨by omega,by rw[show t-k=(t-(k+1))+1 by omega,zvL];exact q2⟩
theorem zjQ{ρ:Nat→Ph}{h:LH}{fr:Fr}{a:Act}{w:World}(R:Rel P w0 ρ h w)(hF:FrR ρ h.length N fr a):∀(rs:List ResultVar) (es:List ER) (l:List FV),zae P rs=some es→jO fr h es=some l→
 (rs.mapM (m:=Sem) fun r=>match r with
   | .tmp t=>pure (a.tmps.getD t undef)
   | .cell c t=>do loadVar t (←asAddr (a.tmps.getD c undef))).run P w= .ok (l.map (cv ρ)) w∧∀v∈l,wfV ρ h.length v
 |[],es,l,hc,he=>by
  simp only[zae,zuE] at hc;subst hc;simp only[jO,zuE] at he;subst he;exact⟨rfl,by simp⟩
 |r::rs,es,l,hc,he=>by
  simp only[zae] at hc;split at hc
  ·rename_i x hx;obtain⟨es',hes,rfl⟩:=zuI.1 hc;cases r with
   |cell c t=>
    obtain⟨⟨g,m⟩,ht,rfl⟩:=zuI.1 hx;simp only[jO,zgG] at he;split at he
    ·rename_i v hv;obtain⟨l',hl,rfl⟩:=zuI.1 he;obtain⟨⟨v',h1⟩,hop,rfl⟩:=zuI.1 hv;obtain⟨r1,r2⟩:=zjQ R hF rs es' l' hes hl;obtain⟨ptr,hptr⟩:∃i o,odS fr (.t c)=some (.ptr i o):=by
      simp only[opE] at hop;split at hop
      ·rename_i i o h0;exact⟨i,o,h0⟩
      ·cases hop
     obtain⟨o,hptr⟩:=hptr;have hget:yq fr c=some (.s (.ptr ptr o)):=zdX hptr;obtain⟨q1,q2,q3⟩:=hF.get c _ hget;obtain⟨k1,k2,k3⟩:=zhF R hF (x:= .tmp c) (y:= .t c) ht rfl hop;have e1:a.eval (.tmp c)= .pointer (some ⟨(ρ ptr).blk,(ρ ptr).base+o,none⟩):=(zh hF (x:= .tmp c) (y:= .t c) rfl hptr).1;have e2:a.tmps.getD c undef= .pointer (some ⟨(ρ ptr).blk,(ρ ptr).base+o,none⟩):=q2;rw[e1] at k1;simp only[Instr.loadAt,Instr.sureAddr,zu5,zvg,zuT] at k1;refine⟨?_,fun u hu=> ?_⟩
     ·have e3:asAddr (.pointer (some ⟨(ρ ptr).blk,(ρ ptr).base+o,none⟩))=pure ⟨(ρ ptr).blk,(ρ ptr).base+o,none⟩:=rfl;simp only[List.mapM_cons,zu5,zuT,e2,e3,zvg,k1,zu2];rw[r1];rfl
     ·rcases zuX.1 hu with rfl|hu
      ·exact k2
      ·exact r2 u hu
    ·cases he
   |tmp t=>
    simp only[zsg,zuE] at hx;subst hx;simp only[jO,zgG] at he;split at he
    ·rename_i v hv;obtain⟨l',hl,rfl⟩:=zuI.1 he;obtain⟨q1,q2,q3⟩:=hF.get t v hv;obtain⟨r1,r2⟩:=zjQ R hF rs es' l' hes hl;refine⟨?_,fun u hu=> ?_⟩
     ·simp only[List.mapM_cons,zu5,zvg,zuT,q2,zu2];rw[r1];rfl
     ·rcases zuX.1 hu with rfl|hu
      ·exact q3
      ·exact r2 u hu
    ·cases he
  ·cases hc
theorem zao{ρ:Nat→Ph}{h:LH}{fr:Fr}{a:Act}{w:World}(R:Rel P w0 ρ h w)(hF:FrR ρ h.length N fr a){fn:Func}{es:List ER}{h':LH}{v:FV}(hc:zae P fn.results.toList=some es)(he:qR (jO fr h es) h=some (v,h')):
 (results fn a.tmps).run P w= .ok (cv ρ v) w∧wfV ρ h.length v∧h'=h:=by
 unfold qR at he;split at he
 ·rename_i l hl;split at he
  ·rename_i hfl;simp only[zuE,zuH] at he;obtain⟨rfl,rfl⟩:=he;obtain⟨q1,q2⟩:=zjQ (P:=P) R hF fn.results.toList es l hc hl;obtain⟨r1,r2⟩:=zaK hfl q2;refine⟨?_,?_,rfl⟩
   ·unfold results;rw[zu5,Array.mapM_eq_mapM_toList];rw[map_eq_pure_bind,zu5];have q1':=q1
    first
     |rw[q1']
     |(have e:∀(r:ResultVar),(match r with
        | .tmp t=>(pure (a.tmps.getD t undef):Sem Value)
        | .cell c t=>do loadVar t (←asAddr (a.tmps.getD c undef)))=(match r with
        | .tmp t=>(pure (a.tmps.getD t undef):Sem Value)
        | .cell c t=>do loadVar t (←asAddr (a.tmps.getD c undef))):=fun _=>rfl
       erw [q1'])
    simp only[zuT,zvg];cases l with
    |nil=>rfl
    |cons x r=>
     cases r with
     |nil=>rfl
     |cons y r=>
      simp only[qL,cv];rw[←r2];simp
   ·cases l with
    |nil=>exact fun v hv=>by cases hv
    |cons x r=>
     cases r with
     |nil=>exact q2 x zvT
     |cons y r=>exact fun v hv=>r1 v hv
  ·cases he
 ·cases he
def XOK(P:Program)(G:Base→Prop)(f:Nat)(e:EF):Prop:=∃(k m:Nat) (g:List FV→LH→Option (List FV×LH)),e=⟨k,.ext k m g,(List.range m).map fun i=> .tmp (k+i)⟩∧
 ∀(w0:Base),G w0→∀(args:List FV) (h:LH) (vs:List FV) (h':LH) (ρ:Nat→Ph) (w:World),args.length=k→g args h=some (vs,h')→vs.length=m→Yg vs=true→Rel P w0 ρ h w→(∀u∈args,wfV ρ h.length u)→
  (∃ fn, P.funcs[f]? = some fn ∧ fn.name ≠ "runtime.NumGoroutine" ∧ fn.body.isSome = true) ∧
  Calls P f (args.map (cv ρ)).toArray w fun e w'=>∃ρ',e= .returned (cv ρ' (qL vs))∧Rel P w0 ρ' h' w'∧Ext h.length ρ ρ'∧h.length≤h'.length∧wfV ρ' h'.length (qL vs)
theorem zeB:∀(vs:List FV) (k:Nat),JL (jj k vs) k vs.length=some vs:=by
 have key:∀(vs:List FV) (k:Nat) (fr:Fr),(∀i,i<vs.length→yq fr (k+i)=vs[i]?)→JL fr k vs.length=some vs:=by
  intro vs
  induction vs with
  |nil=>intro k fr _;rfl
  |cons v r ih=>
   intro k fr hf;simp only[zvr,JL];have h0:=hf 0 (by simp);rw[zwa,zvt] at h0;rw[h0];simp only;rw[ih (k+1) fr fun i hi=>by
    have:=hf (i+1) (by simpa using hi);rw[zvL] at this;rw[←this];congr 1;omega]
   rfl
 intro vs k;refine key vs k _ fun i hi=> ?_;clear key
 induction vs generalizing k i with
 |nil=>simp at hi
 |cons v r ih=>
  simp only[jj,yq];cases i with
  |zero=>rw[zuO (by omega)];rfl
  |succ i=>
   rw[zuQ (by omega),zvL];have:=ih (k+1) i (by simpa using hi);rw[show k+(i+1)=k+1+i by omega];exact this
theorem zbB:∀(vs:List FV) (k i:Nat),i<vs.length→yq (jj k vs) (k+i)=vs[i]?
 |[],k,i,h=>by simp at h
 |v::r,k,i,h=>by
  simp only[jj,yq];cases i with
  |zero=>rw[zuO (by omega)];rfl
  |succ i=>
   rw[zuQ (by omega),zvL];have:=zbB r (k+1) i (by simpa using h);rw[show k+(i+1)=k+1+i by omega];exact this
theorem zg7{fr:Fr}:∀(n i:Nat) (vs:List FV),JL fr i n=some vs→vs.length=n∧∀j,j<n→yq fr (i+j)=vs[j]?
 |0,i,vs,h=>by simp only[JL,zuE] at h;subst h;simp
 |n+1,i,vs,h=>by
  simp only[JL] at h;split at h
  ·rename_i v hv;obtain⟨r,hr,rfl⟩:=zuI.1 h;obtain⟨h1,h2⟩:=zg7 n (i+1) r hr;refine⟨by simp[h1],fun j hj=> ?_⟩;cases j with
   |zero=>exact hv
   |succ j=>rw[zvL,←h2 j (by omega)];congr 1;omega
  ·cases h
theorem zfj{h:LH}:∀(m k i:Nat) (vs rs:List FV),jO (jj k vs) h ((List.range' i m).map fun i=> .tmp (k+i))=some rs→rs.length=m∧∀j,j<m→vs[i+j]? =rs[j]?
 |0,k,i,vs,rs,he=>by simp only[List.range'_zero,zv9,jO,zuE] at he;subst he;simp
 |m+1,k,i,vs,rs,he=>by
  rw[List.range'_succ,zu2] at he;simp only[jO,zgG] at he;split at he
  ·rename_i v hv;obtain⟨r,hr,rfl⟩:=zuI.1 he;obtain⟨h1,h2⟩:=zfj m k (i+1) vs r hr;refine⟨by simp[h1],fun j hj=> ?_⟩;cases j with
   |zero=>
    have hl:i<vs.length:=by
     apply Classical.byContradiction;intro hn;have:∀(vs:List FV) (k i:Nat),vs.length≤i→yq (jj k vs) (k+i)=none:=by
      intro vs
      induction vs with
      |nil=>intro k i _;rfl
      |cons v r ih=>
       intro k i hi;simp only[zvr] at hi;simp only[jj,yq];rw[zuQ (by omega)];have:=ih (k+1) (i-1) (by omega);rw[show k+1+(i-1)=k+i by omega] at this;exact this
     rw[this vs k i (by omega)] at hv;cases hv
    rw[zbB vs k i hl] at hv;rw[zwa];exact hv
   |succ j=>rw[zvL,←h2 j (by omega)];congr 1;omega
  ·cases he
theorem zfI{G:Base→Prop}(hG:JG P G)(hm:P.follows .mixedOrders=true){C:Nat→Option EF}(hC:∀f e,C f=some e→(∃hs,jv P f hs=some e)∨XOK P G f e):∀(n:Nat) (w0:Base),G w0→ZE P w0 (jh C n)
 |0,w0,hg=>fun f args h v h' ρ w he=>by cases he
 |n+1,w0,hg=>fun f args h v h' ρ w he R hwf=>by
  simp only[jh] at he;split at he
  ·cases he
  ·rename_i e hf;rcases hC f e hf with⟨hs,hcF⟩|⟨k,m,g,rfl,hx⟩
   rotate_left
   ·--known by what it comes to
    split at he
    ·rename_i hle;simp only[zp,zlF] at he;cases hag:JL (jj 0 args) 0 k with
     |none=>rw[hag] at he;simp at he
     |some as=>
      rw[hag] at he;simp only[zwr] at he;obtain⟨l1,l2⟩:=zg7 k 0 as hag;have has:as=args:=by
       refine zv0 fun j=> ?_;rcases zwk j k with hj|hj
       ·rw[←l2 j hj];have hja:j<args.length:=by
         apply Classical.byContradiction;intro hn;have h1:=l2 j hj;rw[zvn] at h1;have h2:yq (jj 0 args) j=none:=by
          cases hq:yq (jj 0 args) j with
          |none=>rfl
          |some u=>
           have:=(zaU args 0 j u hq).2;rw[Nat.sub_zero] at this;have:=(zuJ.1 this).1;exact absurd this hn
         rw[h2] at h1;have:j<as.length:=by omega
         rw[zuV this] at h1;cases h1
        have:=zbB args 0 j hja;rw[this]
       ·rw[zvK (by omega),zvK (by simp only at hle;omega)]
      subst has;split at he
      ·rename_i vs h1 hgr;split at hgr
       ·rename_i vs2 h2 hg2;split at hgr
        ·rename_i hm2;split at hgr
         ·rename_i hl;simp only[zuE,zuH,true_and] at hgr;obtain⟨rfl,rfl⟩:=hgr;unfold qR at he;split at he
          ·rename_i rs hrs;split at he
           ·rename_i hfl;simp only[zuE,zuH] at he;obtain⟨rfl,rfl⟩:=he;have hrs':jO (jj k vs2) h2 ((List.range' 0 m).map fun i=> .tmp (k+i))=some rs:=by
             rw[←List.range_eq_range'];exact hrs
            obtain⟨r1,r2⟩:=zfj m k 0 vs2 rs hrs';have ers:rs=vs2:=by
             refine zv0 fun j=> ?_;rcases zwk j m with hj|hj
             ·rw[←r2 j hj,zvn]
             ·rw[zvK (by omega),zvK (by omega)]
            subst ers;exact hx w0 hg _ h rs h2 ρ w l1 hg2 hm2 hfl R hwf
           ·cases he
          ·cases he
         ·cases hgr
        ·cases hgr
       ·cases hgr
      ·rename_i vs h1 hgr;split at hgr
       ·split at hgr
        ·split at hgr<;>cases hgr
        ·cases hgr
       ·cases hgr
      ·cases he
    ·cases he
   unfold jv at hcF;split at hcF
   ·rename_i fn hfn;split at hcF
    ·rename_i c hb;split at hcF
     ·rename_i hname;split at hcF
      ·rename_i x r hx hr;obtain rfl:=zuG hcF;split at he
       ·rename_i hle;refine⟨⟨fn,hfn,by simpa using hname,by rw[hb];rfl⟩,?_⟩;refine calls_of_wp hfn hb ?_;have hF0:FrR ρ h.length fn.ntmps (jj 0 args) {tmps:=(args.map (cv ρ)).toArray++Array.replicate (fn.ntmps-(args.map (cv ρ)).toArray.size) undef,defers:=[]}:=by
         refine⟨?_,rfl,fun t u hu=> ?_⟩
         ·simp only[zxa,Array.size_replicate,zwe,zu9];simp only at hle;omega
         ·obtain⟨q1,q2⟩:=zaU args 0 t u hu;rw[Nat.sub_zero] at q2;have hlt:=(zuJ.1 q2).1;simp only at hle;refine⟨by omega,?_,hwf u (zvE q2)⟩;rw[zvF,zwM (by simpa using hlt)];simp[q2]
        split at he
        ·rename_i fr1 h1 he1;refine zcy hG hg hm (zfI hG hm hC n) (ZG C n) n c hs x.1 x.2 hx _ h _ fr1 h1 he1 ρ _ w R hF0 _ (fun ρ1 a1 w1 q1 q2 q3 q4=> ?_);obtain⟨r1,r2,rfl⟩:=zao (P:=P) q1 q2 hr he;exact⟨q2.defers,_,r1,ρ1,rfl,q1,q3,q4,r2⟩
        ·rename_i fr1 h1 he1;refine zcy hG hg hm (zfI hG hm hC n) (ZG C n) n c hs x.1 x.2 hx _ h _ fr1 h1 he1 ρ _ w R hF0 _ (fun ρ1 a1 w1 q1 q2 q3 q4=> ?_);obtain⟨r1,r2,rfl⟩:=zao (P:=P) q1 q2 hr he;exact⟨q2.defers,_,r1,ρ1,rfl,q1,q3,q4,r2⟩
        ·cases he
       ·cases he
      ·cases hcF
     ·cases hcF
    ·cases hcF
   ·cases hcF
end
end
end Go.Proofs.YtdmcfjkgopmlgaaGreatDoor.Ev
namespace Go.Proofs.YtdmcfjkgopmlgaaGreatDoor.Ev
open Go Go.RowKit
open Classical in
noncomputable def lim{α:Type}(f:Nat→Option α):Option α:=
 if h:∃n,(f n).isSome=true then f h.choose else none
theorem J5{α:Type}{f:Nat→Option α}{r:α}(h:lim f=some r):∃n,f n=some r:=by
 unfold lim at h;split at h
 ·rename_i hx;exact⟨_,h⟩
 ·cases h
theorem zgn{α:Type}{f:Nat→Option α}(hm:∀n r,f n=some r→f (n+1)=some r){n:Nat}{r:α}(h:f n=some r):lim f=some r:=by
 have hm':∀k n r,f n=some r→f (n+k)=some r:=by
  intro k
  induction k with
  |zero=>intro n r h;exact h
  |succ k ih=>intro n r h;exact hm _ _ (ih n r h)
 have hx:∃n,(f n).isSome=true:=⟨n,by rw[h];rfl⟩
 unfold lim;rw[dif_pos hx];obtain⟨r',hr'⟩:=zv3.1 hx.choose_spec;have a:=hm' n _ _ hr';have b:=hm' hx.choose _ _ h;rw[zx1] at b;rw[hr',←a,b]
theorem zah{keep:List Nat}{fr:Fr}{n:Nat}(hn:n∈keep):yq (zl keep fr) n=yq fr n:=by
 induction keep with
 |nil=>cases hn
 |cons k r ih=>
  simp only[zl,zu2,yq];by_cases e:n=k
  ·rw[zuO e,e]
  ·rw[zuQ e];exact ih ((zuX.1 hn).resolve_left e)
theorem zhx(keep:List Nat)(fr:Fr):zl keep (zl keep fr)=zl keep fr:=by
 show keep.map _=keep.map _;exact zvo fun n hn=>by rw[zah hn]
theorem zdJ{body:Fr→LH→Out}{keep:List Nat}:∀(n:Nat) (fr:Fr) (h:LH),j7 body keep n (zl keep fr) h=j7 body keep n fr h
 |0,fr,h=>rfl
 |n+1,fr,h=>by simp only[j7,zhx]
noncomputable def zhG(body:Fr→LH→Out)(keep:List Nat)(fr:Fr)(h:LH):Out:=lim fun n=>j7 body keep n fr h
mutual
noncomputable def zC(call:zU):EC→Fr→LH→Out
 | .skip,fr,h=>some (.normal,fr,h)
 | .label _,fr,h=>some (.normal,fr,h)
 | .ops l keep,fr,h=>(jY call l fr h).map fun x=>(.normal,zl keep x.1,x.2)
 | .draw l ps keep,fr,h=>(Zs call l ps fr h).map fun x=>(.normal,zl keep x.1,x.2)
 | .seq a b,fr,h=>
   match zC call a fr h with
   |some (.normal,fr',h')=>zC call b fr' h'
   |r=>r
 | .cond c a b,fr,h=>
   match odS fr c with
   |some (.bool t)=>if t then zC call a fr h else zC call b fr h
   |_=>none
 | .block id b,fr,h=>
   match zC call b fr h with
   |some (.exit id',fr',h')=>if id'=id then some (.normal,fr',h') else some (.exit id',fr',h')
   |r=>r
 | .loop keep b,fr,h=>zhG (zC call b) keep (zl keep fr) h
 | .exit id keep,fr,h=>some (.exit id,zl keep fr,h)
 | .ret keep,fr,h=>some (.ret,zl keep fr,h)
 | .goto l keep,fr,h=>some (.goto l,zl keep fr,h)
 | .scope b,fr,h=>lim fun n=>ye (zX call b) (Yt b) n (zC call b fr h)
 | .ext k m g,fr,h=>zlF k m g fr h
noncomputable def zX(call:zU):EC→Nat→Fr→LH→Out
 | .seq a b,l,fr,h=>
   if Yt a l then match zX call a l fr h with
   |some (.normal,fr',h')=>zC call b fr' h'
   |r=>r
   else zX call b l fr h
 | .label l',l,fr,h=>if l'==l then some (.normal,fr,h) else none
 |_,_,_,_=>none
end
theorem Qk{at1 at2:Nat→Fr→LH→Out}(ha:∀l fr h r,at1 l fr h=some r→at2 l fr h=some r)(has:Nat→Bool):∀(n m:Nat),n≤m→∀(x:Ex×Fr×LH) (r:Ex×Fr×LH),ye at1 has n (some x)=some r→ye at2 has m (some x)=some r:=by
 intro n
 induction n with
 |zero=>
  intro m hm x r he;unfold ye at he⊢;split at he
  ·rename_i l fr h e;obtain rfl:=zuG e;split at he
   ·cases he
   ·rename_i hl;simp only[hl,zva,if_false];exact he
  ·exact he
 |succ n ih=>
  intro m hm x r he;unfold ye at he⊢;split at he
  ·rename_i l fr h e;obtain rfl:=zuG e;split at he
   ·rename_i hl;simp only[hl,if_true];cases m with
    |zero=>omega
    |succ m=>
     cases hr:at1 l fr h with
     |none=>rw[hr] at he;unfold ye at he;cases he
     |some y=>
      rw[hr] at he;simp only[ha _ _ _ _ hr];exact ih m (by omega) y r he
   ·rename_i hl;simp only[hl,zva,if_false];exact he
  ·exact he
noncomputable def zy(C:Nat→Option EF):zU:=fun f args h=>lim fun n=>jh C n f args h
def qy(c c':zU):Prop:=∀f args h r,c f args h=some r→c' f args h=some r
theorem Jg{c c':zU}(hc:qy c c'){fr:Fr}{h:LH}{o:EO}{r:FV×LH}(he:zK c fr h o=some r):zK c' fr h o=some r:=by
 unfold zK at he⊢;split at he
 ·rename_i hi;rw[zuO hi];split at he
  ·exact hc _ _ _ _ he
  ·cases he
 ·rename_i hi;rw[zuQ hi];exact he
theorem zbO{c c':zU}(hc:qy c c'):∀(l:List EG) (fr:Fr) (h:LH) (r:Fr×LH),jY c l fr h=some r→jY c' l fr h=some r
 |[],fr,h,r,he=>he
 |g::l,fr,h,r,he=>by
  simp only[jY] at he⊢;split at he
  ·rename_i hw;split at he
   ·rename_i v h1 hs;rw[Jg hc hs];exact zbO hc l _ _ r he
   ·cases he
  ·rename_i hw;exact zbO hc l _ _ r he
  ·cases he
theorem Qs{c c':zU}(hc:qy c c'):∀(l:List EG) (fr:Fr) (h:LH) (r:List (Option TE)×Fr×LH),je c l fr h=some r→je c' l fr h=some r
 |[],fr,h,r,he=>he
 |g::l,fr,h,r,he=>by
  simp only[je] at he⊢;split at he
  ·rename_i hw;split at he
   ·rename_i v h1 hs;rw[Jg hc hs];obtain⟨x,hx,rfl⟩:=zuI.1 he;simp only[Qs hc l _ _ x hx,zvb]
   ·cases he
  ·rename_i hw;obtain⟨x,hx,rfl⟩:=zuI.1 he;simp only[Qs hc l _ _ x hx,zvb]
  ·cases he
theorem zh2{c c':zU}(hc:qy c c'){tr:List (Option TE)}{p:Nat×Nat}(h:qb c tr p):qb c' tr p:=by
 unfold qb at h⊢;split at h
 ·rename_i x y h1 h2;exact h.imp id fun h=>h.imp (fun⟨a,b,c⟩=>⟨Jg hc a,Jg hc b,c⟩) id
 ·trivial
 ·exact h.elim
theorem za1{c c':zU}(hc:qy c c'){tr:List (Option TE)}:∀{l:List (Nat×Nat)},yg c tr l→yg c' tr l
 |[],_=>trivial
 |p::l,h=>⟨zh2 hc h.1,za1 hc h.2⟩
theorem zi4{c c':zU}(hc:qy c c'){l:List EG}{ps:List (Nat×Nat)}{fr:Fr}{h:LH}{r:Fr×LH}(he:Zs c l ps fr h=some r):Zs c' l ps fr h=some r:=by
 unfold Zs at he⊢;split at he
 ·rename_i tr fr1 h1 ht;rw[Qs hc _ _ _ _ ht];split at he
  ·rename_i hp;simp only;rw[zuO (za1 hc hp)];exact he
  ·cases he
 ·cases he
theorem ZO{b b':Fr→LH→Out}(hb:∀fr h r,b fr h=some r→b' fr h=some r){keep:List Nat}:∀{n n':Nat},n≤n'→∀{fr:Fr} {h:LH} {r:Ex×Fr×LH},j7 b keep n fr h=some r→j7 b' keep n' fr h=some r
 |0,_,_,fr,h,r,he=>by cases he
 |n+1,0,hn,_,_,_,_=>by omega
 |n+1,n'+1,hn,fr,h,r,he=>by
  simp only[j7] at he⊢;split at he
  ·rename_i fr' h' h1;rw[hb _ _ _ h1];exact ZO hb (by omega) he
  ·rename_i hne;rw[hb _ _ _ he];split
   ·rename_i hq;exact absurd (he.trans hq) (hne _ _)
   ·rfl
theorem zhc{c c':zU}(hc:qy c c'){n n':Nat}(hn:n≤n'):∀(e:EC),(∀(fr:Fr) (h:LH) (r:Ex×Fr×LH),zp c n e fr h=some r→zp c' n' e fr h=some r)∧∀(l:Nat) (fr:Fr) (h:LH) (r:Ex×Fr×LH),zM c n e l fr h=some r→zM c' n' e l fr h=some r:=by
 intro e
 induction e with
 |skip=>refine⟨?_,fun l fr h r he=>by simp only[zM] at he;cases he⟩;intro fr h r he;simp only[zp] at he⊢;exact he
 |label l'=>
  refine⟨fun fr h r he=> ?_,fun l fr h r he=> ?_⟩
  ·simp only[zp] at he⊢;exact he
  ·simp only[zM] at he⊢;exact he
 |ops l keep=>
  refine⟨?_,fun l fr h r he=>by simp only[zM] at he;cases he⟩;intro fr h r he;simp only[zp] at he⊢;obtain⟨x,hx,rfl⟩:=zuI.1 he;rw[zbO hc _ _ _ _ hx];rfl
 |draw l ps keep=>
  refine⟨?_,fun l fr h r he=>by simp only[zM] at he;cases he⟩;intro fr h r he;simp only[zp] at he⊢;obtain⟨x,hx,rfl⟩:=zuI.1 he;rw[zi4 hc hx];rfl
 |seq a b iha ihb=>
  refine⟨fun fr h r he=> ?_,fun l fr h r he=> ?_⟩
  ·simp only[zp] at he⊢;split at he
   ·rename_i fr' h' h1;rw[iha.1 _ _ _ h1];exact ihb.1 _ _ _ he
   ·rename_i hne;rw[iha.1 _ _ _ he];split
    ·rename_i hq;exact absurd (he.trans hq) (hne _ _)
    ·rfl
  ·simp only[zM] at he⊢;split at he
   ·rename_i hl;rw[zuO hl];split at he
    ·rename_i fr' h' h1;rw[iha.2 _ _ _ _ h1];exact ihb.1 _ _ _ he
    ·rename_i hne;rw[iha.2 _ _ _ _ he];split
     ·rename_i hq;exact absurd (he.trans hq) (hne _ _)
     ·rfl
   ·rename_i hl;rw[zuQ hl];exact ihb.2 _ _ _ _ he
 |cond x a b iha ihb=>
  refine⟨?_,fun l fr h r he=>by simp only[zM] at he;cases he⟩;intro fr h r he;simp only[zp] at he⊢;split at he
  ·rename_i t ht;cases t with
   |true=>exact iha.1 _ _ _ he
   |false=>exact ihb.1 _ _ _ he
  ·cases he
 |block id b ih=>
  refine⟨?_,fun l fr h r he=>by simp only[zM] at he;cases he⟩;intro fr h r he;simp only[zp] at he⊢;split at he
  ·rename_i id' fr' h' h1;rw[ih.1 _ _ _ h1];exact he
  ·rename_i hne;rw[ih.1 _ _ _ he];split
   ·rename_i hq;exact absurd (he.trans hq) (hne _ _ _)
   ·rfl
 |loop keep b ih=>
  refine⟨?_,fun l fr h r he=>by simp only[zM] at he;cases he⟩;intro fr h r he;simp only[zp] at he⊢;exact ZO ih.1 hn he
 |exit id keep=>refine⟨?_,fun l fr h r he=>by simp only[zM] at he;cases he⟩;intro fr h r he;simp only[zp] at he⊢;exact he
 |ret keep=>refine⟨?_,fun l fr h r he=>by simp only[zM] at he;cases he⟩;intro fr h r he;simp only[zp] at he⊢;exact he
 |goto l keep=>refine⟨?_,fun l fr h r he=>by simp only[zM] at he;cases he⟩;intro fr h r he;simp only[zp] at he⊢;exact he
 |scope b ih=>
  refine⟨?_,fun l fr h r he=>by simp only[zM] at he;cases he⟩;intro fr h r he;simp only[zp] at he⊢;cases hr:zp c n b fr h with
  |none=>rw[hr] at he;unfold ye at he;cases he
  |some y=>
   rw[hr] at he;rw[ih.1 _ _ _ hr];exact Qk ih.2 _ n n' hn y r he
 |ext k m f=>refine⟨?_,fun l fr h r he=>by simp only[zM] at he;cases he⟩;intro fr h r he;simp only[zp] at he⊢;exact he
theorem zc5{c c':zU}(hc:qy c c'){n n':Nat}(hn:n≤n')(e:EC)(fr:Fr)(h:LH)(r:Ex×Fr×LH)(he:zp c n e fr h=some r):zp c' n' e fr h=some r:=(zhc hc hn e).1 fr h r he
theorem YU(C:Nat→Option EF):∀n,qy (jh C n) (jh C (n+1))
 |0=>fun f args h r he=>by cases he
 |n+1=>fun f args h r he=>by
  rw[jh] at he⊢;split at he
  ·cases he
  ·rename_i e hf;split at he
   ·rename_i hle;rw[zuO hle];split at he
    ·rename_i fr h1 h2;rw[zc5 (YU C n) (zw8 n) _ _ _ _ h2];exact he
    ·rename_i fr h1 h2;rw[zc5 (YU C n) (zw8 n) _ _ _ _ h2];exact he
    ·cases he
   ·cases he
theorem qy.trans{a b c:zU}(h1:qy a b)(h2:qy b c):qy a c:=fun f args h r he=>h2 _ _ _ _ (h1 _ _ _ _ he)
theorem zm8(C:Nat→Option EF){n m:Nat}(h:n≤m):qy (jh C n) (jh C m):=by
 induction h with
 |refl=>exact fun _ _ _ _ h=>h
 |step _ ih=>exact ih.trans (YU C _)
theorem zc0{C:Nat→Option EF}{f:Nat}{args:List FV}{h:LH}{r:FV×LH}(he:zy C f args h=some r):∃n,∀m,n≤m→jh C m f args h=some r:=by obtain⟨n,hn⟩:=J5 he;exact⟨n,fun m hm=>zm8 C hm _ _ _ _ hn⟩
theorem zha{C:Nat→Option EF}{f:Nat}{args:List FV}{h:LH}{r:FV×LH}{n:Nat}(he:jh C n f args h=some r):zy C f args h=some r:=
 zgn (fun n r h=>YU C n _ _ _ _ h) he
section
variable {C:Nat→Option EF}
theorem Jf{fr:Fr}{h:LH}{o:EO}{r:FV×LH}(he:zK (zy C) fr h o=some r):∃n,∀m,n≤m→zK (jh C m) fr h o=some r:=by
 unfold zK at he⊢;split at he
 ·rename_i hi;split at he
  ·rename_i f args hq;obtain⟨n,hn⟩:=zc0 he;exact⟨n,fun m hm=>by rw[zuO hi,hn m hm]⟩
  ·cases he
 ·rename_i hi;exact⟨0,fun m _=>by rw[zuQ hi];exact he⟩
theorem zbN:∀(l:List EG) (fr:Fr) (h:LH) (r:Fr×LH),jY (zy C) l fr h=some r→∃n,∀m,n≤m→jY (jh C m) l fr h=some r
 |[],fr,h,r,he=>⟨0,fun _ _=>he⟩
 |g::l,fr,h,r,he=>by
  simp only[jY] at he⊢;split at he
  ·rename_i hw;split at he
   ·rename_i v h1 hs;obtain⟨n1,q1⟩:=Jf hs;obtain⟨n2,q2⟩:=zbN l _ _ r he;exact⟨max n1 n2,fun m hm=>by rw[q1 m (by omega)];exact q2 m (by omega)⟩
   ·cases he
  ·rename_i hw;exact zbN l _ _ r he
  ·cases he
theorem Qr:∀(l:List EG) (fr:Fr) (h:LH) (r:List (Option TE)×Fr×LH),je (zy C) l fr h=some r→∃n,∀m,n≤m→je (jh C m) l fr h=some r
 |[],fr,h,r,he=>⟨0,fun _ _=>he⟩
 |g::l,fr,h,r,he=>by
  simp only[je] at he⊢;split at he
  ·rename_i hw;split at he
   ·rename_i v h1 hs;obtain⟨x,hx,rfl⟩:=zuI.1 he;obtain⟨n1,q1⟩:=Jf hs;obtain⟨n2,q2⟩:=Qr l _ _ x hx;exact⟨max n1 n2,fun m hm=>by rw[q1 m (by omega)];simp only[q2 m (by omega),zvb]⟩
   ·cases he
  ·rename_i hw;obtain⟨x,hx,rfl⟩:=zuI.1 he;obtain⟨n2,q2⟩:=Qr l _ _ x hx;exact⟨n2,fun m hm=>by simp only[q2 m hm,zvb]⟩
  ·cases he
theorem zh1{tr:List (Option TE)}{p:Nat×Nat}(h:qb (zy C) tr p):∃n,∀m,n≤m→qb (jh C m) tr p:=by
 unfold qb at h⊢;split at h
 ·rename_i x y h1 h2;rcases h with h|⟨a,b,c⟩|h
  ·exact⟨0,fun _ _=> .inl h⟩
  ·obtain⟨n1,q1⟩:=Jf a;obtain⟨n2,q2⟩:=Jf b;exact⟨max n1 n2,fun m hm=> .inr (.inl ⟨q1 m (by omega),q2 m (by omega),c⟩)⟩
  ·exact⟨0,fun _ _=> .inr (.inr h)⟩
 ·exact⟨0,fun _ _=>trivial⟩
 ·exact h.elim
theorem za0{tr:List (Option TE)}:∀{l:List (Nat×Nat)},yg (zy C) tr l→∃n,∀m,n≤m→yg (jh C m) tr l
 |[],_=>⟨0,fun _ _=>trivial⟩
 |p::l,h=>by obtain⟨n1,q1⟩:=zh1 h.1;obtain⟨n2,q2⟩:=za0 h.2;exact⟨max n1 n2,fun m hm=>⟨q1 m (by omega),q2 m (by omega)⟩⟩
theorem zi3{l:List EG}{ps:List (Nat×Nat)}{fr:Fr}{h:LH}{r:Fr×LH}(he:Zs (zy C) l ps fr h=some r):∃n,∀m,n≤m→Zs (jh C m) l ps fr h=some r:=by
 unfold Zs at he;split at he
 ·rename_i tr fr1 h1 ht;split at he
  ·rename_i hp;obtain⟨n1,q1⟩:=Qr _ _ _ _ ht;obtain⟨n2,q2⟩:=za0 hp;refine⟨max n1 n2,fun m hm=> ?_⟩;unfold Zs;rw[q1 m (by omega)];simp only;rw[zuO (q2 m (by omega))];exact he
  ·cases he
 ·cases he
theorem zhd:∀(e:EC),(∀(fr:Fr) (h:LH) (r:Ex×Fr×LH),zC (zy C) e fr h=some r→∃n,∀m,n≤m→zp (jh C m) m e fr h=some r)∧∀(l:Nat) (fr:Fr) (h:LH) (r:Ex×Fr×LH),zX (zy C) e l fr h=some r→∃n,∀m,n≤m→zM (jh C m) m e l fr h=some r:=by
 intro e
 induction e with
 |skip=>refine⟨?_,fun l fr h r he=>by simp only[zX] at he;cases he⟩;intro fr h r he;simp only[zC] at he;exact⟨0,fun _ _=>by simp only[zp];exact he⟩
 |label l'=>
  refine⟨fun fr h r he=> ?_,fun l fr h r he=> ?_⟩
  ·simp only[zC] at he;exact⟨0,fun _ _=>by simp only[zp];exact he⟩
  ·simp only[zX] at he;exact⟨0,fun _ _=>by simp only[zM];exact he⟩
 |ops l keep=>
  refine⟨?_,fun l fr h r he=>by simp only[zX] at he;cases he⟩;intro fr h r he;simp only[zC] at he;obtain⟨x,hx,rfl⟩:=zuI.1 he;obtain⟨n,hn⟩:=zbN _ _ _ _ hx;exact⟨n,fun m hm=>by simp only[zp,hn m hm,zvb]⟩
 |draw l ps keep=>
  refine⟨?_,fun l fr h r he=>by simp only[zX] at he;cases he⟩;intro fr h r he;simp only[zC] at he;obtain⟨x,hx,rfl⟩:=zuI.1 he;obtain⟨n,hn⟩:=zi3 hx;exact⟨n,fun m hm=>by simp only[zp,hn m hm,zvb]⟩
 |seq a b iha ihb=>
  refine⟨fun fr h r he=> ?_,fun l fr h r he=> ?_⟩
  ·simp only[zC] at he;split at he
   ·rename_i fr' h' h1;obtain⟨n1,q1⟩:=iha.1 _ _ _ h1;obtain⟨n2,q2⟩:=ihb.1 _ _ _ he;exact⟨max n1 n2,fun m hm=>by simp only[zp,q1 m (by omega)];exact q2 m (by omega)⟩
   ·rename_i hne;obtain⟨n1,q1⟩:=iha.1 _ _ _ he;refine⟨n1,fun m hm=> ?_⟩;simp only[zp];rw[q1 m hm];split
    ·rename_i hq;exact absurd (he.trans hq) (hne _ _)
    ·rfl
  ·simp only[zX] at he;split at he
   ·rename_i hl;split at he
    ·rename_i fr' h' h1;obtain⟨n1,q1⟩:=iha.2 _ _ _ _ h1;obtain⟨n2,q2⟩:=ihb.1 _ _ _ he;exact⟨max n1 n2,fun m hm=>by simp only[zM,zuO hl,q1 m (by omega)];exact q2 m (by omega)⟩
    ·rename_i hne;obtain⟨n1,q1⟩:=iha.2 _ _ _ _ he;refine⟨n1,fun m hm=> ?_⟩;simp only[zM,zuO hl];rw[q1 m hm];split
     ·rename_i hq;exact absurd (he.trans hq) (hne _ _)
     ·rfl
   ·rename_i hl;obtain⟨n1,q1⟩:=ihb.2 _ _ _ _ he;exact⟨n1,fun m hm=>by simp only[zM,zuQ hl];exact q1 m hm⟩
 |cond x a b iha ihb=>
  refine⟨?_,fun l fr h r he=>by simp only[zX] at he;cases he⟩;intro fr h r he;simp only[zC] at he;split at he
  ·rename_i t ht;cases t with
   |true=>
    obtain⟨n,hn⟩:=iha.1 _ _ _ he;exact⟨n,fun m hm=>by simp only[zp,ht];exact hn m hm⟩
   |false=>
    obtain⟨n,hn⟩:=ihb.1 _ _ _ he;exact⟨n,fun m hm=>by simp only[zp,ht];exact hn m hm⟩
  ·cases he
 |block id b ih=>
  refine⟨?_,fun l fr h r he=>by simp only[zX] at he;cases he⟩;intro fr h r he;simp only[zC] at he;split at he
  ·rename_i id' fr' h' h1;obtain⟨n,hn⟩:=ih.1 _ _ _ h1;exact⟨n,fun m hm=>by simp only[zp,hn m hm];exact he⟩
  ·rename_i hne;obtain⟨n,hn⟩:=ih.1 _ _ _ he;refine⟨n,fun m hm=> ?_⟩;simp only[zp];rw[hn m hm];split
   ·rename_i hq;exact absurd (he.trans hq) (hne _ _ _)
   ·rfl
 |loop keep b ih=>
  refine⟨?_,fun l fr h r he=>by simp only[zX] at he;cases he⟩;intro fr h r he;simp only[zC] at he;obtain⟨k,hk⟩:=J5 he;rw[zdJ] at hk;have key:∀(k:Nat) (fr:Fr) (h:LH),j7 (zC (zy C) b) keep k fr h=some r→∃n,∀m,n≤m→j7 (zp (jh C m) m b) keep k fr h=some r:=by
   intro k
   induction k with
   |zero=>intro fr h he;cases he
   |succ k ihk=>
    intro fr h he;simp only[j7] at he;split at he
    ·rename_i fr' h' h1;obtain⟨n1,q1⟩:=ih.1 _ _ _ h1;obtain⟨n2,q2⟩:=ihk _ _ he;exact⟨max n1 n2,fun m hm=>by simp only[j7,q1 m (by omega)];exact q2 m (by omega)⟩
    ·rename_i hne;obtain⟨n1,q1⟩:=ih.1 _ _ _ he;refine⟨n1,fun m hm=> ?_⟩;simp only[j7];rw[q1 m hm];split
     ·rename_i hq;exact absurd (he.trans hq) (hne _ _)
     ·rfl
  obtain⟨n,hn⟩:=key k fr h hk;refine⟨max n k,fun m hm=> ?_⟩;simp only[zp];exact ZO (fun _ _ _ h=>h) (by omega) (hn m (by omega))
 |exit id keep=>refine⟨?_,fun l fr h r he=>by simp only[zX] at he;cases he⟩;intro fr h r he;simp only[zC] at he;exact⟨0,fun _ _=>by simp only[zp];exact he⟩
 |ret keep=>refine⟨?_,fun l fr h r he=>by simp only[zX] at he;cases he⟩;intro fr h r he;simp only[zC] at he;exact⟨0,fun _ _=>by simp only[zp];exact he⟩
 |goto l keep=>refine⟨?_,fun l fr h r he=>by simp only[zX] at he;cases he⟩;intro fr h r he;simp only[zC] at he;exact⟨0,fun _ _=>by simp only[zp];exact he⟩
 |scope b ih=>
  refine⟨?_,fun l fr h r he=>by simp only[zX] at he;cases he⟩;intro fr h r he;simp only[zC] at he;obtain⟨k,hk⟩:=J5 he;cases hr:zC (zy C) b fr h with
  |none=>rw[hr] at hk;unfold ye at hk;cases hk
  |some y=>
   rw[hr] at hk;obtain⟨n0,q0⟩:=ih.1 _ _ _ hr;have key:∀(k:Nat) (y:Ex×Fr×LH),ye (zX (zy C) b) (Yt b) k (some y)=some r→∃n,∀m,n≤m→ye (zM (jh C m) m b) (Yt b) k (some y)=some r:=by
    intro k
    induction k with
    |zero=>
     intro y hy;refine⟨0,fun m _=> ?_⟩;unfold ye at hy⊢;exact hy
    |succ k ihk=>
     intro y hy;unfold ye at hy;split at hy
     ·rename_i l fr1 h1 e;obtain rfl:=zuG e;split at hy
      ·rename_i hl;cases ht:zX (zy C) b l fr1 h1 with
       |none=>rw[ht] at hy;unfold ye at hy;cases hy
       |some z=>
        rw[ht] at hy;obtain⟨n1,q1⟩:=ih.2 _ _ _ _ ht;obtain⟨n2,q2⟩:=ihk z hy;refine⟨max n1 n2,fun m hm=> ?_⟩;unfold ye;simp only[hl,if_true,q1 m (by omega)];exact q2 m (by omega)
      ·rename_i hl;refine⟨0,fun m _=> ?_⟩;unfold ye;simp only[hl,zva,if_false];exact hy
     ·rename_i hne;refine⟨0,fun m _=> ?_⟩;unfold ye;split
      ·rename_i l fr1 h1 e;exact absurd e (hne l fr1 h1)
      ·exact hy
   obtain⟨n1,q1⟩:=key k y hk;refine⟨max k (max n0 n1),fun m hm=> ?_⟩;simp only[zp,q0 m (by omega)];exact Qk (fun _ _ _ _ h=>h) _ k m (by omega) y r (q1 m (by omega))
 |ext k m f=>refine⟨?_,fun l fr h r he=>by simp only[zX] at he;cases he⟩;intro fr h r he;simp only[zC] at he;exact⟨0,fun _ _=>by simp only[zp];exact he⟩
theorem zc6(e:EC)(fr:Fr)(h:LH)(r:Ex×Fr×LH)(he:zC (zy C) e fr h=some r):∃n,∀m,n≤m→zp (jh C m) m e fr h=some r:=(zhd e).1 fr h r he
noncomputable def zg9(C:Nat→Option EF)(e:EF)(args:List FV)(h:LH):Option (FV×LH):=
 match zC (zy C) e.body (jj 0 args) h with
 |some (.normal,fr,h')=>qR (jO fr h' e.res) h'
 |some (.ret,fr,h')=>qR (jO fr h' e.res) h'
 |_=>none
theorem JM{f:Nat}{e:EF}(hf:C f=some e){args:List FV}(hl:args.length≤e.slots){h:LH}{r:FV×LH}(he:zg9 C e args h=some r):zy C f args h=some r:=by
 unfold zg9 at he;split at he
 ·rename_i fr h' h1;obtain⟨n,hn⟩:=zc6 _ _ _ _ h1;refine zha (n:=n+1) ?_;simp only[jh,hf,zuO hl,hn n (zuL _)];exact he
 ·rename_i fr h' h1;obtain⟨n,hn⟩:=zc6 _ _ _ _ h1;refine zha (n:=n+1) ?_;simp only[jh,hf,zuO hl,hn n (zuL _)];exact he
 ·cases he
theorem zdK{body:Fr→LH→Out}{keep:List Nat}{fr fr':Fr}{h h':LH}(hk:zl keep fr=fr)(hb:body fr h=some (.normal,fr',h')){r:Ex×Fr×LH}(hr:zhG body keep (zl keep fr') h'=some r):zhG body keep fr h=some r:=by obtain⟨n,hn⟩:=J5 hr;rw[zdJ] at hn;refine zgn (fun n r he=>ZO (fun _ _ _ h=>h) (zw8 n) he) (n:=n+1) ?_;simp only[j7,hk,hb];exact hn
theorem q8{body:Fr→LH→Out}{keep:List Nat}{fr:Fr}{h:LH}{r:Ex×Fr×LH}(hk:zl keep fr=fr)(hb:body fr h=some r)(hne:r.1≠.normal):zhG body keep fr h=some r:=by
 refine zgn (fun n r he=>ZO (fun _ _ _ h=>h) (zw8 n) he) (n:=1) ?_;obtain⟨e,fr',h'⟩:=r;cases e with
 |normal=>exact absurd rfl hne
 |exit id=>simp only[j7,hk,hb]
 |goto l=>simp only[j7,hk,hb]
 |ret=>simp only[j7,hk,hb]
theorem zcZ{P:Program}{G:Base→Prop}(hG:JG P G){w0:Base}(hg:G w0)(hm:P.follows .mixedOrders=true)(hC:∀f e,C f=some e→(∃hs,jv P f hs=some e)∨XOK P G f e):ZE P w0 (zy C):=
 fun f args h v h' ρ w he R hw=>by obtain⟨n,hn⟩:=J5 he;exact zfI hG hm hC n w0 hg f args h v h' ρ w hn R hw
def W0(w:World):Base:=⟨w,w.heap.size,fun _=>False,false⟩
theorem zqE{i p o n:Nat}:zbE (.sl i p o n)=some n:=rfl
theorem zlV:zbE .nils=some 0:=rfl
theorem znV{i p o:Nat}:zbE (.sl0 i p o)=some 0:=rfl
theorem zjY{P:Program}:JG P (fun _=>True):=fun _ _ _ _ _ _ _=>trivial
theorem calls_trueG{P:Program}{G:Base→Prop}(hG:JG P G)(hm:P.follows .mixedOrders=true)(hC:∀f e,C f=some e→(∃hs,jv P f hs=some e)∨XOK P G f e){f:Nat}{args:List FV}{h h':LH}(he:zy C f args h=some (.s (.bool true),h')){ρ:Nat→Ph}{W:World}(hg:G (W0 W))(R:Rel P (W0 W) ρ h W)(hw:∀u∈args,wfV ρ h.length u):
 Calls P f (args.map (cv ρ)).toArray W fun e W'=>e= .returned (.bool true)∧Below W.heap.size W W':=by
 refine Calls.mono (zcZ (w0:=W0 W) hG hg hm hC f args h _ h' ρ W he R hw).2 fun e w' hq=> ?_;obtain⟨ρ',rfl,q1,_⟩:=hq;exact⟨rfl,q1.below.toBelow⟩
end
end Go.Proofs.YtdmcfjkgopmlgaaGreatDoor.Ev
