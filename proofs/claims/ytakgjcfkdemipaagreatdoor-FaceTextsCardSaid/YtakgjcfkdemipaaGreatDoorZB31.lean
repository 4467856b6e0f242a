/-
  Lemmas for the statement: the library of the chapter's examples (plain), and what the functions answer there. No condition.
-/
import Derived.Test.YtakgjcfkdemipaaGreatDoorZB15
namespace Go.Proofs.YtakgjcfkdemipaaGreatDoor
def tB:List UInt8:=[98,111,111,108]
def tQ:List UInt8:=[63,116]
def tS:List UInt8:=[115,101,116,91,63,116,93]
def fQ:aA:=⟨[115,101,116],3,true,[⟨[101,113,117,97,108],⟨false,[tQ,tQ],tB,[]⟩⟩],[⟨[110,101,119],⟨false,[],tS,[]⟩⟩,⟨[104,111,108,100,115],⟨false,[tS,tQ],tB,[]⟩⟩]⟩
def dH:aA:=⟨[115,111,114,116],1,true,[⟨[108,116],⟨false,[tQ,tQ],tB,[]⟩⟩],[⟨[115,111,114,116],⟨false,[[97,114,114,97,121,91,63,116,93]],[],[]⟩⟩]⟩
def fO:List aA:=[fQ,dH]
theorem Je:kS fO=(0,0):=by decide+kernel
theorem Gp:kS [dH,fQ]=(1,6):=by decide+kernel
theorem EP:jP fO [] [115,101,116,91,105,110,116,93] [104,111,108,100,115]=(⟨false,[[115,101,116,91,105,110,116,93],[105,110,116]],tB,[]⟩,0):=by
 have h:((jP fO [] [115,101,116,91,105,110,116,93] [104,111,108,100,115]).1.iter,(jP fO [] [115,101,116,91,105,110,116,93] [104,111,108,100,115]).1.args,(jP fO [] [115,101,116,91,105,110,116,93] [104,111,108,100,115]).1.res,(jP fO [] [115,101,116,91,105,110,116,93] [104,111,108,100,115]).1.sigs,(jP fO [] [115,101,116,91,105,110,116,93] [104,111,108,100,115]).2)=(false,[[115,101,116,91,105,110,116,93],[105,110,116]],tB,[],0):=by decide+kernel
 generalize jP fO [] [115,101,116,91,105,110,116,93] [104,111,108,100,115]=r at *
 obtain⟨⟨a1,a2,a3,a4⟩,a5⟩:=r
 simpa[and_assoc] using h
theorem Jd:(jP fO [] [115,101,116,91,105,110,116,93] [97,100,100]).2=40:=by decide+kernel
theorem Jg:(jA fO [] [97,114,114,97,121,91,105,110,116,93]).2=0∧(jA fO [] [97,114,114,97,121,91,105,110,116,93]).1.length=7∧(jA fO [] [97,114,114,97,121,91,105,110,116,93]).1[2]?.map (·.name)=some [102,101,116,99,104]:=by decide+kernel
theorem Jh:(lF fO [] [115,111,114,116] [98,111,111,108]).2=41:=by decide+kernel
theorem Gq:s9 fO [] dH.ag [98,111,111,108]=([108,116],false,0):=by decide+kernel
theorem Gu:uF fQ=([[115,101,116]],0):=by
 have h1:dF fQ=true:=by decide+kernel
 have h2:(mL fQ).flatMap aQ=[tQ,tQ,tB,tS,tS,tQ,tB]:=by decide+kernel
 have s0:gB []=[]:=by unfold gB;simp[iX]
 have s1:∀a:List UInt8,gB [a]=[a]:=λa=>by unfold gB;simp[iX,hasB]
 have n1:bZ tQ=([],0):=by
  unfold bZ;rw[if_pos (by decide+kernel),show pX (aq tQ).2.ins=[] by decide+kernel,s0]
 have n2:bZ tB=([],0):=by
  unfold bZ;rw[if_pos (by decide+kernel),show pX (aq tB).2.ins=[] by decide+kernel,s0]
 have n3:bZ tS=([[115,101,116]],0):=by
  unfold bZ;rw[if_pos (by decide+kernel),show pX (aq tS).2.ins=[[115,101,116]] by decide+kernel,s1]
 unfold uF
 rw[if_pos h1,h2]
 simp only[List.flatMap_cons,List.flatMap_nil,n1,n2,n3,List.nil_append,List.append_nil,List.singleton_append]
 unfold gB
 rw[show iX [[115,101,116],[115,101,116]]=[[115,101,116]] by decide]
 simp
theorem Gt:su dH=([112,114,111,99,32,115,111,114,116,91,116,93,10,104,97,115,32,108,116,32,112,114,111,99,40,63,116,44,63,116,41,32,114,101,116,117,114,110,115,32,98,111,111,108,10,111,112,32,115,111,114,116,32,112,114,111,99,40,97,114,114,97,121,91,63,116,93,41,10],0):=by decide+kernel
theorem Jf:wT fO [] false [115,101,116,91,115,101,116,91,105,110,116,93,93]=41:=by decide+kernel
theorem Gs:wT fO fQ.ag true tS=0:=by decide+kernel
end Go.Proofs.YtakgjcfkdemipaaGreatDoor
