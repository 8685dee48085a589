/- A part of the proofs of this claim: what functions of the program answer on an abstract machine, and plain laws. No condition. -/
import Derived.Test.YtabdgoepkddlbaaGreatD2
import Derived.Test.YtabdgoepkddlbaaGreatRows
import Derived.KernelRfl
set_option linter.unusedVariables false
set_option linter.unusedSimpArgs false
set_option linter.unusedSectionVars false
namespace Go.V
open Go.Ab Go.Proofs
open Option renaming some->Y,none->Z
open Bool renaming true->Za,false->Zb
open Decidable renaming decide->Zc
section
open Tryz renaming prog -> aB
section
variable {a b c d e g h i j k l m n o p q r s u v w x y z A B C D E F G H I J K L M N O P:Type}
abbrev u2 (f:a->b->c)(t:a×b):=f t.1 t.2
abbrev u3 (f:a->b->c->d)(t:a×b×c):=u2 (f t.1) t.2
abbrev u4 (f:a->b->c->d->e)(t:a×b×c×d):=u3 (f t.1) t.2
abbrev u5 (f:a->b->c->d->e->g)(t:a×b×c×d×e):=u4 (f t.1) t.2
abbrev u6 (f:a->b->c->d->e->g->h)(t:a×b×c×d×e×g):=u5 (f t.1) t.2
abbrev u7 (f:a->b->c->d->e->g->h->i)(t:a×b×c×d×e×g×h):=u6 (f t.1) t.2
abbrev u8 (f:a->b->c->d->e->g->h->i->j)(t:a×b×c×d×e×g×h×i):=u7 (f t.1) t.2
abbrev u9 (f:a->b->c->d->e->g->h->i->j->k)(t:a×b×c×d×e×g×h×i×j):=u8 (f t.1) t.2
abbrev u10 (f:a->b->c->d->e->g->h->i->j->k->l)(t:a×b×c×d×e×g×h×i×j×k):=u9 (f t.1) t.2
abbrev u11 (f:a->b->c->d->e->g->h->i->j->k->l->m)(t:a×b×c×d×e×g×h×i×j×k×l):=u10 (f t.1) t.2
abbrev u12 (f:a->b->c->d->e->g->h->i->j->k->l->m->n)(t:a×b×c×d×e×g×h×i×j×k×l×m):=u11 (f t.1) t.2
abbrev u13 (f:a->b->c->d->e->g->h->i->j->k->l->m->n->o)(t:a×b×c×d×e×g×h×i×j×k×l×m×n):=u12 (f t.1) t.2
abbrev u14 (f:a->b->c->d->e->g->h->i->j->k->l->m->n->o->p)(t:a×b×c×d×e×g×h×i×j×k×l×m×n×o):=u13 (f t.1) t.2
abbrev u15 (f:a->b->c->d->e->g->h->i->j->k->l->m->n->o->p->q)(t:a×b×c×d×e×g×h×i×j×k×l×m×n×o×p):=u14 (f t.1) t.2
abbrev u16 (f:a->b->c->d->e->g->h->i->j->k->l->m->n->o->p->q->r)(t:a×b×c×d×e×g×h×i×j×k×l×m×n×o×p×q):=u15 (f t.1) t.2
abbrev u17 (f:a->b->c->d->e->g->h->i->j->k->l->m->n->o->p->q->r->s)(t:a×b×c×d×e×g×h×i×j×k×l×m×n×o×p×q×r):=u16 (f t.1) t.2
abbrev u18 (f:a->b->c->d->e->g->h->i->j->k->l->m->n->o->p->q->r->s->u)(t:a×b×c×d×e×g×h×i×j×k×l×m×n×o×p×q×r×s):=u17 (f t.1) t.2
abbrev u19 (f:a->b->c->d->e->g->h->i->j->k->l->m->n->o->p->q->r->s->u->v)(t:a×b×c×d×e×g×h×i×j×k×l×m×n×o×p×q×r×s×u):=u18 (f t.1) t.2
abbrev u20 (f:a->b->c->d->e->g->h->i->j->k->l->m->n->o->p->q->r->s->u->v->w)(t:a×b×c×d×e×g×h×i×j×k×l×m×n×o×p×q×r×s×u×v):=u19 (f t.1) t.2
abbrev u21 (f:a->b->c->d->e->g->h->i->j->k->l->m->n->o->p->q->r->s->u->v->w->x)(t:a×b×c×d×e×g×h×i×j×k×l×m×n×o×p×q×r×s×u×v×w):=u20 (f t.1) t.2
abbrev u22 (f:a->b->c->d->e->g->h->i->j->k->l->m->n->o->p->q->r->s->u->v->w->x->y)(t:a×b×c×d×e×g×h×i×j×k×l×m×n×o×p×q×r×s×u×v×w×x):=u21 (f t.1) t.2
abbrev u23 (f:a->b->c->d->e->g->h->i->j->k->l->m->n->o->p->q->r->s->u->v->w->x->y->z)(t:a×b×c×d×e×g×h×i×j×k×l×m×n×o×p×q×r×s×u×v×w×x×y):=u22 (f t.1) t.2
abbrev u24 (f:a->b->c->d->e->g->h->i->j->k->l->m->n->o->p->q->r->s->u->v->w->x->y->z->A)(t:a×b×c×d×e×g×h×i×j×k×l×m×n×o×p×q×r×s×u×v×w×x×y×z):=u23 (f t.1) t.2
abbrev u25 (f:a->b->c->d->e->g->h->i->j->k->l->m->n->o->p->q->r->s->u->v->w->x->y->z->A->B)(t:a×b×c×d×e×g×h×i×j×k×l×m×n×o×p×q×r×s×u×v×w×x×y×z×A):=u24 (f t.1) t.2
abbrev u26 (f:a->b->c->d->e->g->h->i->j->k->l->m->n->o->p->q->r->s->u->v->w->x->y->z->A->B->C)(t:a×b×c×d×e×g×h×i×j×k×l×m×n×o×p×q×r×s×u×v×w×x×y×z×A×B):=u25 (f t.1) t.2
abbrev u27 (f:a->b->c->d->e->g->h->i->j->k->l->m->n->o->p->q->r->s->u->v->w->x->y->z->A->B->C->D)(t:a×b×c×d×e×g×h×i×j×k×l×m×n×o×p×q×r×s×u×v×w×x×y×z×A×B×C):=u26 (f t.1) t.2
abbrev u28 (f:a->b->c->d->e->g->h->i->j->k->l->m->n->o->p->q->r->s->u->v->w->x->y->z->A->B->C->D->E)(t:a×b×c×d×e×g×h×i×j×k×l×m×n×o×p×q×r×s×u×v×w×x×y×z×A×B×C×D):=u27 (f t.1) t.2
abbrev u29 (f:a->b->c->d->e->g->h->i->j->k->l->m->n->o->p->q->r->s->u->v->w->x->y->z->A->B->C->D->E->F)(t:a×b×c×d×e×g×h×i×j×k×l×m×n×o×p×q×r×s×u×v×w×x×y×z×A×B×C×D×E):=u28 (f t.1) t.2
abbrev u30 (f:a->b->c->d->e->g->h->i->j->k->l->m->n->o->p->q->r->s->u->v->w->x->y->z->A->B->C->D->E->F->G)(t:a×b×c×d×e×g×h×i×j×k×l×m×n×o×p×q×r×s×u×v×w×x×y×z×A×B×C×D×E×F):=u29 (f t.1) t.2
abbrev u31 (f:a->b->c->d->e->g->h->i->j->k->l->m->n->o->p->q->r->s->u->v->w->x->y->z->A->B->C->D->E->F->G->H)(t:a×b×c×d×e×g×h×i×j×k×l×m×n×o×p×q×r×s×u×v×w×x×y×z×A×B×C×D×E×F×G):=u30 (f t.1) t.2
abbrev u32 (f:a->b->c->d->e->g->h->i->j->k->l->m->n->o->p->q->r->s->u->v->w->x->y->z->A->B->C->D->E->F->G->H->I)(t:a×b×c×d×e×g×h×i×j×k×l×m×n×o×p×q×r×s×u×v×w×x×y×z×A×B×C×D×E×F×G×H):=u31 (f t.1) t.2
abbrev u33 (f:a->b->c->d->e->g->h->i->j->k->l->m->n->o->p->q->r->s->u->v->w->x->y->z->A->B->C->D->E->F->G->H->I->J)(t:a×b×c×d×e×g×h×i×j×k×l×m×n×o×p×q×r×s×u×v×w×x×y×z×A×B×C×D×E×F×G×H×I):=u32 (f t.1) t.2
abbrev u34 (f:a->b->c->d->e->g->h->i->j->k->l->m->n->o->p->q->r->s->u->v->w->x->y->z->A->B->C->D->E->F->G->H->I->J->K)(t:a×b×c×d×e×g×h×i×j×k×l×m×n×o×p×q×r×s×u×v×w×x×y×z×A×B×C×D×E×F×G×H×I×J):=u33 (f t.1) t.2
abbrev u35 (f:a->b->c->d->e->g->h->i->j->k->l->m->n->o->p->q->r->s->u->v->w->x->y->z->A->B->C->D->E->F->G->H->I->J->K->L)(t:a×b×c×d×e×g×h×i×j×k×l×m×n×o×p×q×r×s×u×v×w×x×y×z×A×B×C×D×E×F×G×H×I×J×K):=u34 (f t.1) t.2
abbrev u36 (f:a->b->c->d->e->g->h->i->j->k->l->m->n->o->p->q->r->s->u->v->w->x->y->z->A->B->C->D->E->F->G->H->I->J->K->L->M)(t:a×b×c×d×e×g×h×i×j×k×l×m×n×o×p×q×r×s×u×v×w×x×y×z×A×B×C×D×E×F×G×H×I×J×K×L):=u35 (f t.1) t.2
abbrev u37 (f:a->b->c->d->e->g->h->i->j->k->l->m->n->o->p->q->r->s->u->v->w->x->y->z->A->B->C->D->E->F->G->H->I->J->K->L->M->N)(t:a×b×c×d×e×g×h×i×j×k×l×m×n×o×p×q×r×s×u×v×w×x×y×z×A×B×C×D×E×F×G×H×I×J×K×L×M):=u36 (f t.1) t.2
abbrev u38 (f:a->b->c->d->e->g->h->i->j->k->l->m->n->o->p->q->r->s->u->v->w->x->y->z->A->B->C->D->E->F->G->H->I->J->K->L->M->N->O)(t:a×b×c×d×e×g×h×i×j×k×l×m×n×o×p×q×r×s×u×v×w×x×y×z×A×B×C×D×E×F×G×H×I×J×K×L×M×N):=u37 (f t.1) t.2
abbrev u39 (f:a->b->c->d->e->g->h->i->j->k->l->m->n->o->p->q->r->s->u->v->w->x->y->z->A->B->C->D->E->F->G->H->I->J->K->L->M->N->O->P)(t:a×b×c×d×e×g×h×i×j×k×l×m×n×o×p×q×r×s×u×v×w×x×y×z×A×B×C×D×E×F×G×H×I×J×K×L×M×N×O):=u38 (f t.1) t.2
end
abbrev Rt :=an6 aB
theorem rq {P:Program}{f:FuncId}{tab:List FSum}{vals:List Sk}{objs:List OSk}{outs:List Alt}{run:Tup (SSk.shs ⟨vals,[],objs⟩)->Option (ac1 outs)}(at':AT)(ht:lx P tab)(he: ∀t,bR8 P f ⟨tab,[]⟩ vals objs outs at' t=run t):an6 P ⟨f,vals,objs,outs,run⟩:=dt7 ht he
abbrev NS :Sk:= .nils
set_option maxRecDepth 100000
abbrev zh0 :Sh:=(.int .i64)
abbrev zh1 :Sh:=(.int .u64)
abbrev zh2 :Sh:=(.list zh1)
abbrev zh3 :Sh:=(.list zh0)
abbrev zh4 :Sh:=(.pair zh0 zh1)
abbrev zh5 :Sh:=(.pair zh0 zh0)
abbrev zh6 :Sh:=(.pair zh0 zh4)
abbrev zh7 :Sh:=(.pair zh0 (.pair zh1 zh0))
abbrev zh8 :Sh:=(.pair zh0 zh6)
abbrev zh9 :Sh:=(.pair zh0 zh7)
abbrev dx6 :Sh:=(.pair zh0 zh8)
abbrev eo3 :Sh:=(.pair zh0 zh9)
abbrev ec8 :Sh:=(.list dx6)
abbrev cv4 :Sh:=(.pair zh0 eo3)
abbrev vq :Sk:=(.full 4)
abbrev xC :Sk:=(.full 5)
abbrev v :Sk:=(.full 1)
abbrev y :Sk:=(.full 3)
abbrev w :Sk:=(.full 2)
abbrev g :Sk:=(.ptr 0 0)
abbrev bJ0 :Sk:=(.ptr 6 0)
abbrev bc7 :Sk:=(.ptr 7 0)
abbrev bw4 :Sk:=(.ptr 8 0)
abbrev bj0 :Sk:=(.ptr 9 0)
abbrev ec9 :Sk:=(.full 36)
abbrev ed0 :Sk:=(.full 39)
abbrev ed1 :Sk:=(.full 40)
abbrev eo6 :Sk:=(.full 41)
abbrev eo7 :Sk:=(.full 42)
abbrev ed2 :Sk:=(.full 43)
abbrev eo8 :Sk:=(.full 47)
abbrev eo9 :Sk:=(.full 37)
abbrev ep0 :Sk:=(.full 38)
abbrev a :Sk:=(.leaf zh0)
abbrev wZ :Sk:=(.leaf zh2)
abbrev i :Sk:=(.leaf zh1)
abbrev dx7 :Sk:=(.ptr 25 0)
abbrev ed3 :Sk:=(.ptr 33 0)
abbrev ed4 :Sk:=(.ptr 34 0)
abbrev ed5 :Sk:=(.ptr 35 0)
abbrev ed6 :Sk:=(.ptr 37 0)
abbrev ed7 :Sk:=(.ptr 38 0)
abbrev ed8 :Sk:=(.ptr 44 0)
abbrev ep1 :Sk:=(.ptr 45 0)
abbrev ep2 :Sk:=(.ptr 46 0)
abbrev ep3 :Sk:=(.ptr 41 0)
abbrev ep4 :Sk:=(.ptr 42 0)
abbrev as9 :Sk:=(.leaf ec8)
abbrev j :Sk:=(.leaf .bool)
abbrev p :Sk:=(.cint .i64 0)
abbrev cI5 :Sk:=(.fn 64 [] [])
abbrev dh1 :Sk:=(.fn 66 [] [])
abbrev dh2 :Sk:=(.fn 65 [] [])
abbrev aq4 :Sk:=(.agg [a,as9])
abbrev bw5 :Sk:=(.tup [g,p])
abbrev cd8 :Sk:=(.agg [a,a,a,a,i])
abbrev dx8 :Sk:=(.agg [a,a,(.leaf zh3),a,a,a,a,a])
abbrev zN :Sk:=(.agg [a,wZ,wZ,a,as9,a,as9,a,a])
abbrev dJ1 :Sk:=(.agg [i,i,i,i,i,i,i,i,i,i,i,i,i,i,i,i])
abbrev b :OSk:=(.arr Za zh1)
abbrev h :OSk:=(.arr Za zh0)
abbrev m :OSk:=(.arr Zb zh0)
abbrev bc9 :OSk:=(.arr Zb zh5)
abbrev c :OSk:=(.arr Zb zh1)
abbrev d :OSk:=(.arr Za dx6)
abbrev r :OSk:=(.arr Zb dx6)
abbrev dJ2 :OSk:=(.cells 1 Zb [ec9,a])
abbrev ed9 :OSk:=(.cells 1 Zb [eo8,a])
abbrev ep5 :OSk:=(.cells 1 Zb [ed2,a])
abbrev yD :OSk:=(.cells 1 Za [(.full 8),a])
abbrev x :OSk:=(.cells 1 Za [(.full 9),a])
abbrev k :OSk:=(.cells 1 Za [a,a,a])
abbrev yE :OSk:=(.cells 1 Za [(.full 10),a])
abbrev l :OSk:=(.cells 1 Zb [a,a,a])
abbrev ee0 :OSk:=(.cells 1 Zb [(.full 33),a])
abbrev yF :OSk:=(.cells 1 Za [a,a,a,bJ0])
abbrev yJ :OSk:=(.cells 1 Za [a,a,a,bc7])
abbrev dJ3 :OSk:=(.cells 1 Zb [a,a,a,ed3])
abbrev ee1 :OSk:=(.cells 1 Zb [a,a,a,ed8])
abbrev cv5 :OSk:=(.cells 1 Zb [a,a,a,a,v])
abbrev ep6 :OSk:=(.cells 1 Zb [ed7,a,dh2,j,j])
abbrev ep7 :OSk:=(.cells 1 Zb [ed7,a,cI5,j,j])
abbrev ep8 :OSk:=(.cells 1 Zb [ed5,a,dh1,j,j])
abbrev ee2 :OSk:=(.cells 1 Zb [dx7,a,dh1,j,j])
abbrev bC2 :OSk:=(.cells 1 Za [(.ptr 1 0),a,dh1,j,j])
abbrev bC3 :OSk:=(.cells 1 Za [(.ptr 1 0),a,cI5,j,j])
abbrev bC4 :OSk:=(.cells 1 Za [(.ptr 1 0),a,dh2,j,j])
abbrev dx9 :OSk:=(.cells 1 Zb [(.ptr 2 0),a,dh1,j,j])
abbrev dy0 :OSk:=(.cells 1 Zb [(.ptr 2 0),a,cI5,j,j])
abbrev dy1 :OSk:=(.cells 1 Zb [(.ptr 2 0),a,dh2,j,j])
abbrev ee3 :OSk:=(.cells 1 Zb [(.ptr 27 0),a,dh2,j,j])
abbrev ee4 :OSk:=(.cells 1 Zb [(.ptr 27 0),a,cI5,j,j])
abbrev dh3 :OSk:=(.cells 1 Zb [i,i,i,i,i,i,i,i])
abbrev cI6 :OSk:=(.cells 1 Za [a,a,(.leaf zh3),a,a,a,a,a])
abbrev bd0 :OSk:=(.cells 1 Za [a,a,a,a,a,v,w,a,y,a,vq,a,a,xC,bJ0,bc7,bw4,a,a,a,a,a,a,a,i])
abbrev bd1 :OSk:=(.cells 1 Za [a,a,a,a,a,v,w,a,y,a,vq,a,a,xC,bJ0, .nilp,bc7,a,a,a,a,a,a,a,i])
abbrev bd2 :OSk:=(.cells 1 Zb [a,a,a,a,a,v,w,a,y,a,vq,a,a,xC,bJ0,bc7,bw4,a,a,a,a,a,a,a,i])
abbrev ee5 :OSk:=(.cells 1 Zb [a,a,a,a,a,ed0,ed1,a,eo6,a,eo7,a,a,ed2,ed8,ep1,ep2,a,a,a,a,a,a,a,i])
abbrev bd3 :OSk:=(.cells 1 Zb [a,a,a,a,a,v,w,a,y,a,vq,a,a,xC,bJ0, .nilp,bc7,a,a,a,a,a,a,a,i])
abbrev ep9 :OSk:=(.cells 1 Zb [a,a,a,a,a,ec9,eo9,a,ep0,a,ed0,a,a,ed1,ep3, .nilp,ep4,a,a,a,a,a,a,a,i])
abbrev cY5 :OSk:=(.cells 1 Za [a,a,a,a,a,v,w,a,y,a,vq,a,a,xC, .nilp, .nilp, .nilp,a,a,a,a,a,a,a,i])
abbrev vR :OSk:=(.cells 1 Za [a,a,a,a,a,w,y,a,vq,a,xC,a,a,(.full 6),bc7,bw4,bj0,a,a,a,a,a,a,a,i])
abbrev bc8 :OSk:=(.cells 1 Za [a,a,a,a,a,w,y,a,vq,a,xC,a,a,(.full 6),bc7, .nilp,bw4,a,a,a,a,a,a,a,i])
abbrev av2 :OSk:=(.cells 1 Zb [a,a,a,a,a,w,y,a,vq,a,xC,a,a,(.full 6),bc7,bw4,bj0,a,a,a,a,a,a,a,i])
abbrev bw6 :OSk:=(.cells 1 Zb [a,a,a,a,a,w,y,a,vq,a,xC,a,a,(.full 6),bc7, .nilp,bw4,a,a,a,a,a,a,a,i])
abbrev bX6 :OSk:=(.cells 1 Zb [a,a,a,a,a,y,vq,a,xC,a,(.full 6),a,a,(.full 7),bw4, .nilp,bj0,a,a,a,a,a,a,a,i])
abbrev aO8 :OSk:=(.cells 1 Zb [a,a,a,a,a,y,vq,a,xC,a,(.full 6),a,a,(.full 7),bw4,bj0,(.ptr 10 0),a,a,a,a,a,a,a,i])
abbrev cY6 :OSk:=(.cells 1 Zb [a,a,a,a,a,(.full 28),(.full 29),a,(.full 30),a,(.full 31),a,a,(.full 32),ed3,ed4,ed5,a,a,a,a,a,a,a,i])
abbrev dM6 :OSk:=(.cells 1 Zb [a,a,a,a,a,(.full 26),(.full 27),a,(.full 28),a,(.full 29),a,a,(.full 30),(.ptr 31 0), .nilp,(.ptr 32 0),a,a,a,a,a,a,a,i])
abbrev q :Alt:=⟨.ret,[],⟨[a],[],[]⟩⟩
abbrev o :Alt:=⟨.ret,[],⟨[j],[],[]⟩⟩
abbrev cj2 :Alt:=⟨.ret,[6],⟨[j],[],[]⟩⟩
abbrev ec2 :Alt:=⟨.normal,[11],⟨[ed4],[],[ep8,ep9,c,c,r,r,m,ep5,l,c]⟩⟩
abbrev ec3 :Alt:=⟨.normal,[11],⟨[ed6],[],[ep6,ee5,c,c,r,r,m,ed9,ee1,l,c]⟩⟩
abbrev ec4 :Alt:=⟨.normal,[11],⟨[ed6],[],[ep7,ee5,c,c,r,r,m,ed9,ee1,l,c]⟩⟩
abbrev ec5 :Alt:=⟨.normal,[16,11,14,15],⟨[a,dx7,(.full 26),a],[],[ee3,bc9,cY6,c,c,r,r,m,dJ2,dJ3,l,c]⟩⟩
abbrev ec6 :Alt:=⟨.normal,[16,11,14,15],⟨[a,dx7,(.full 26),a],[],[ee4,bc9,cY6,c,c,r,r,m,dJ2,dJ3,l,c]⟩⟩
abbrev ec7 :Alt:=⟨.normal,[16,11,14,15],⟨[a,(.ptr 23 0),(.full 24),a],[],[ee2,bc9,dM6,c,c,r,r,m,ee0,l,c]⟩⟩
abbrev dy8 :AT:=(.n .no (.n (.n (.sz 18200037 (.jn [] [25,27,28,29,30,31,32,33,34,35,36] [cj2,ec3] .no .no) (.sz 17920037 (.jn [] [25,27,28,29,30,31,32,33,34,35,36] [cj2,ec4] .no .no) (.jn [] [23,25,26,27,28,29,30,31,32,33] [cj2,ec2] .no .no))) .no) .no))
abbrev dy3 :AT:=(.sz 18200037 dy8 (.sz 17920037 dy8 dy8))
abbrev zw0 :AT:=(.n .no (.n .no (.n .no (.n .no (.n (.n .no (.n (.sz 10400025 (.lp [] ec5 [cj2,⟨(.exit 0),[11,14],⟨[dx7,(.full 26)],[],[ee3,bc9,cY6,c,c,r,r,m,dJ2,dJ3,l,c]⟩⟩] dy3) (.sz 10240025 (.lp [] ec6 [cj2,⟨(.exit 0),[11,14],⟨[dx7,(.full 26)],[],[ee4,bc9,cY6,c,c,r,r,m,dJ2,dJ3,l,c]⟩⟩] dy3) (.lp [] ec7 [cj2,⟨(.exit 0),[11,14],⟨[(.ptr 23 0),(.full 24)],[],[ee2,bc9,dM6,c,c,r,r,m,ee0,l,c]⟩⟩] dy3))) .no)) .no)))))
abbrev zw1 :AT:=(.n .no (.n .no (.n .no (.n (.n .no (.n (.sz 1300013 (.lp [1,2,10,11] ⟨.normal,[11,9,10],⟨[a,(.full 13),a],[dy1,aO8,l,c],[bc9]⟩⟩ [⟨.ret,[4,5,6],⟨[.nilp,NS,j],[dy1,aO8,l,c],[]⟩⟩,⟨.ret,[4,5,6],⟨[(.ptr 1 0),(.full 13),j],[dy1,aO8,l,c],[bc9]⟩⟩,⟨(.exit 0),[],⟨[],[dy1,aO8,l,c],[]⟩⟩] .no) (.sz 1280013 (.lp [1,2,10,11] ⟨.normal,[11,9,10],⟨[a,(.full 13),a],[dy0,aO8,l,c],[bc9]⟩⟩ [⟨.ret,[4,5,6],⟨[.nilp,NS,j],[dy0,aO8,l,c],[]⟩⟩,⟨.ret,[4,5,6],⟨[(.ptr 1 0),(.full 13),j],[dy0,aO8,l,c],[bc9]⟩⟩,⟨(.exit 0),[],⟨[],[dy0,aO8,l,c],[]⟩⟩] .no) (.lp [1,2,9,10] ⟨.normal,[11,9,10],⟨[a,(.full 12),a],[dx9,bX6,l,c],[bc9]⟩⟩ [⟨.ret,[4,5,6],⟨[.nilp,NS,j],[dx9,bX6,l,c],[]⟩⟩,⟨.ret,[4,5,6],⟨[(.ptr 1 0),(.full 12),j],[dx9,bX6,l,c],[bc9]⟩⟩,⟨(.exit 0),[],⟨[],[dx9,bX6,l,c],[]⟩⟩] .no))) .no)) .no))))
abbrev dy6 :Alt:=⟨.ret,[4],⟨[a],[],[]⟩⟩
abbrev dy7 :Alt:=⟨.normal,[],⟨[],[],[]⟩⟩
abbrev zw2 :AT:=(.n .no (.jn [] [] [⟨.normal,[5],⟨[j],[],[]⟩⟩] .no (.jn [] [] [dy6,dy7] (.n (.jn [] [] [⟨.normal,[19],⟨[j],[],[]⟩⟩] .no (.n .no (.jn [] [] [⟨.normal,[32],⟨[j],[],[]⟩⟩] .no .no))) .no) .no)))
abbrev zw3 :OSk:=(.cells 1 Zb [a,a,a,a,a,xC,(.full 6),a,(.full 7),a,v,a,a,(.full 8),bj0,(.ptr 10 0),(.ptr 11 0),a,a,a,a,a,a,a,i])
abbrev zw4 :OSk:=(.cells 1 Zb [a,a,a,a,a,xC,(.full 6),a,v,a,(.full 7),a,a,(.full 8),bj0,(.ptr 10 0),(.ptr 11 0),a,a,a,a,a,a,a,i])
abbrev zw5 :OSk:=(.cells 1 Zb [a,a,a,a,a,w,y,a,vq,a,xC,a,a,(.full 6),bc7,bw4,bj0,a,p,(.cint .i64 (-1)),p,p,p,p,(.cint .u64 0)])
abbrev zw6 :OSk:=(.cells 1 Zb [a,a,a,a,a,xC,(.full 6),a,(.full 7),a,v,a,a,(.full 8),bj0, .nilp,(.ptr 10 0),a,a,a,a,a,a,a,i])
abbrev zw7 :OSk:=(.cells 1 Zb [a,a,a,a,a,xC,(.full 6),a,v,a,(.full 7),a,a,(.full 8),bj0, .nilp,(.ptr 10 0),a,a,a,a,a,a,a,i])
abbrev zw8 :OSk:=(.cells 1 Zb [a,a,a,a,a,y,vq,a,xC,a,(.full 6),a,a,(.full 7),bj0,(.ptr 11 0), .nilp,a,a,a,a,a,a,a,i])
abbrev zw9 :Alt:=⟨.ret,[],⟨[(.agg [.nilf,(.fn 124 [g] []),(.fn 125 [g] []),(.fn 126 [g] []),(.fn 127 [g] []),(.fn 115 [g] []),(.fn 128 [g] []),(.fn 129 [g] [])])],[],[]⟩⟩
abbrev ee6 :OSk:=(.cells 1 Zb [a,a,a,a,a,y,vq,a,xC,a,(.full 6),a,a,(.full 7),bj0, .nilp, .nilp,a,a,a,a,a,a,a,i])
abbrev ee7 :OSk:=(.cells 1 Zb [a,a,a,a,a,v,w,a,y,a,vq,a,a,xC,bJ0, .nilp, .nilp,a,a,a,a,a,a,a,i])
abbrev cj7 :Alt:=⟨.normal,[36],⟨[a],[c],[]⟩⟩
abbrev cj8 :Alt:=⟨(.exit 0),[],⟨[],[c],[]⟩⟩
abbrev ee8 :AT:=(.n .no (.n .no (.n .no (.n .no (.n .no (.n .no (.n (.n .no (.n (.lp [13] cj7 [cj8] .no) .no)) .no)))))))
abbrev ee9 :AT:=(.n .no (.n .no (.n .no (.n .no (.n .no (.n .no (.n (.n .no (.n (.lp [14] cj7 [cj8] .no) .no)) .no)))))))
abbrev dU1 :OSk:=(.cells 1 Za [a,a,a,a,a,v,w,a,y,a,vq,a,a,xC,bJ0, .nilp, .nilp,a,a,a,a,a,a,a,i])
abbrev ef0 :AT:=(.n .no (.n .no (.n (.n (.n .no (.n (.dr [0,1,2,3,4,5,6,7,8,9,10,11,13,14,15,16,17,18,19,1020,12,20,21,22,23,24,25,26,27]) .no)) .no) .no)))
abbrev dU2 :OSk:=(.cells 1 Za [a,a,a,a,a,v,w,a,y,a,vq,a,a,xC,bJ0,bc7, .nilp,a,a,a,a,a,a,a,i])
abbrev ef1 :AT:=(.n .no (.n .no (.n (.lp [1,9,10] ⟨.normal,[4],⟨[a],[av2,l,c],[]⟩⟩ [⟨.ret,[2,3],⟨[a,a],[av2,l,c],[]⟩⟩] .no) .no)))
abbrev dN4 :Alt:=⟨.normal,[3],⟨[a],[],[]⟩⟩
abbrev dy5 :Alt:=⟨.ret,[2],⟨[j],[],[]⟩⟩
abbrev bF4 :Alt:=⟨(.exit 0),[],⟨[],[],[]⟩⟩
abbrev ef2 :AT:=(.n .no (.n .no (.n (.n .no (.n (.lp [] dN4 [dy5,bF4] .no) .no)) .no)))
abbrev cZ1 :OSk:=(.cells 1 Zb [(.full 9),a])
abbrev dy4 :OSk:=(.cells 1 Zb [a,a,a,bJ0])
abbrev ef3 :Alt:=⟨.ret,[],⟨[bw5],[],[bd2,c,c,r,r,m,cZ1,dy4,l,c]⟩⟩
abbrev dN0 :OSk:=(.cells 1 Zb [i,i,i,i,i,i,i,i,i,i,i,i,i,i,i,i])
abbrev ef4 :Alt:=⟨.normal,[50],⟨[a],[dN0],[]⟩⟩
abbrev dJ4 :AT:=(.n .no (.n (.n .no (.n (.lp [] ⟨.normal,[8],⟨[a],[],[]⟩⟩ [dy6,bF4] .no) .no)) .no))
abbrev ef5 :Alt:=⟨(.exit 0),[],⟨[],[dN0],[]⟩⟩
abbrev dJ5 :AT:=(.n .no (.n .no (.n (.n .no (.n (.lp [] ⟨.normal,[12,7],⟨[a,a],[],[]⟩⟩ [⟨(.exit 0),[7],⟨[a],[],[]⟩⟩] .no) .no)) .no)))
abbrev dN3 :Alt:=⟨(.exit 0),[5],⟨[a],[],[]⟩⟩
abbrev ef6 :AT:=(.n .no (.n .no (.n (.n .no (.n (.lp [] ⟨.normal,[6,5],⟨[a,a],[],[]⟩⟩ [dN3] .no) .no)) .no)))
abbrev dU3 :AT:=(.n .no (.n .no (.n (.n .no (.n (.lp [] ⟨.normal,[8,3],⟨[a,i],[],[]⟩⟩ [⟨(.exit 0),[3],⟨[i],[],[]⟩⟩] .no) .no)) .no)))
abbrev cZ3 :Alt:=⟨.normal,[5],⟨[a],[],[]⟩⟩
abbrev ef7 :AT:=(.n .no (.n (.lp [] cZ3 [⟨.ret,[4],⟨[j],[],[]⟩⟩,bF4] .no) .no))
abbrev ef8 :AT:=(.n .no (.n .no (.n (.dr [0,1,2,3,4,5,6,8,9,10,11,12,15,1013,1016,7,13,1016,14,17,16,18]) .no)))
abbrev cZ2 :Alt:=⟨(.exit 0),[3],⟨[a],[],[]⟩⟩
abbrev ef9 :AT:=(.n .no (.n (.lp [] ⟨.normal,[11,3],⟨[a,a],[],[]⟩⟩ [cZ2] .no) .no))
abbrev cZ0 :OSk:=(.cells 1 Zb [(.full 8),a])
abbrev eg0 :Alt:=⟨.ret,[],⟨[bw5],[],[bd3,c,c,r,r,m,cZ0,l,c]⟩⟩
abbrev dy9 :AT:=(.n .no (.n .no .no))
abbrev dN1 :AT:=(.n .no (.n (.n .no dy9) .no))
abbrev dJ6 :AT:=(.n .no (.n .no (.n (.n (.n .no dN1) .no) .no)))
abbrev dJ7 :AT:=(.n .no (.n .no (.n (.n (.jn [] [] [⟨.normal,[12],⟨[j],[],[]⟩⟩] .no .no) .no) .no)))
abbrev eg1 :Alt:=⟨.ret,[],⟨[(.tup [(.agg [i,(.full 10),(.full 11)]),a])],[],[c,c]⟩⟩
abbrev eg2 :Alt:=⟨.ret,[],⟨[(.tup [(.agg [i,(.full 11),(.full 12)]),a])],[],[c,c]⟩⟩
abbrev dN2 :AT:=(.n .no (.n dy9 .no))
abbrev dJ8 :AT:=(.n .no (.n .no (.n (.n (.n .no dN2) .no) .no)))
abbrev eg3 :Alt:=⟨.ret,[],⟨[(.tup [(.agg [a,a]),j,a])],[av2,l,c],[]⟩⟩
abbrev eg4 :OSk:=(.cells 1 Zb [a,a,(.leaf zh3),a,a,a,a,a])
abbrev eg5 :AT:=(.n .no (.n (.dr [0,1,2,3,4,5,6,8,1009,7,10,9,11]) .no))
abbrev dU4 :Alt:=⟨.normal,[7,8,2],⟨[a,a,a],[c,c,dh3],[]⟩⟩
abbrev eg6 :Alt:=⟨.ret,[],⟨[(.tup [(.full 0),a])],[],[(.arr Zb cv4)]⟩⟩
abbrev eg7 :AT:=(.n (.jn [] [] [⟨.normal,[16],⟨[j],[],[]⟩⟩] .no .no) .no)
abbrev dU5 :OSk:=(.cells 1 Zb [p,p,NS,p,p,p,p,p])
abbrev eg8 :AT:=(.n .no (.jn [] [] [dN4] .no .no))
abbrev eg9 :AT:=(.n .no (.jn [] [] [⟨.normal,[9],⟨[j],[],[]⟩⟩] .no .no))
abbrev eh0 :Alt:=⟨.ret,[],⟨[bw5],[],[(.cells 1 Zb [v,p]),c]⟩⟩
abbrev eh1 :Alt:=⟨.ret,[],⟨[(.tup [a,a])],[av2,l,c],[]⟩⟩
abbrev eh2 :Alt:=⟨.ret,[],⟨[(.agg [a,a,(.full 11)])],[],[m]⟩⟩
abbrev cR8 :Alt:=⟨.ret,[],⟨[(.tup [(.agg [a,a]),j])],[],[]⟩⟩
abbrev dU6 :Alt:=⟨.ret,[],⟨[(.tup [(.agg [a,p]),j])],[],[]⟩⟩
abbrev eh3 :Alt:=⟨.ret,[],⟨[(.tup [(.agg [p,p]),j])],[],[]⟩⟩
abbrev eh4 :Alt:=⟨.ret,[],⟨[(.agg [j,j,j,j])],[],[]⟩⟩
abbrev eh5 :AT:=(.jn [] [] [⟨.normal,[8],⟨[j],[],[]⟩⟩] .no .no)
abbrev eh6 :Alt:=⟨.ret,[],⟨[(.tup [.nilp,(.cint .i64 2)])],[],[]⟩⟩
abbrev dJ9 :OSk:=(.cells 1 Zb [(.ptr 1 0),a,cI5,j,j])
abbrev dK0 :OSk:=(.cells 1 Zb [(.ptr 1 0),a,dh1,j,j])
abbrev dK1 :OSk:=(.cells 1 Zb [(.ptr 1 0),a,dh2,j,j])
abbrev eh7 :Alt:=⟨.ret,[],⟨[(.tup [(.full 11),p])],[],[c]⟩⟩
abbrev dK2 :Alt:=⟨.ret,[],⟨[(.tup [(.full 0),a])],[],[m]⟩⟩
abbrev dU7 :Alt:=⟨.ret,[],⟨[(.tup [])],[bd2,l,c],[]⟩⟩
abbrev dU8 :Alt:=⟨.ret,[],⟨[(.tup [])],[bd3,l,c],[]⟩⟩
abbrev eh8 :OSk:=(.cells 1 Za [.nilp,a,cI5,j,j])
abbrev dU9 :Alt:=⟨.ret,[],⟨[(.agg [a,a,NS])],[],[]⟩⟩
abbrev eh9 :Alt:=⟨.ret,[],⟨[(.agg [p,p,NS])],[],[]⟩⟩
abbrev dz0 :OSk:=(.cells 1 Za [a,a,a,(.ptr 1 0)])
abbrev dK3 :OSk:=(.cells 1 Za [a,a,a,a,v])
abbrev cJ0 :Alt:=⟨.ret,[],⟨[(.tup [.nilp,a])],[],[]⟩⟩
abbrev ei0 :Alt:=⟨.ret,[],⟨[a],[bd2,l,c],[]⟩⟩
abbrev ei1 :Alt:=⟨.ret,[],⟨[a],[bd3,l,c],[]⟩⟩
abbrev ei2 :Alt:=⟨.ret,[],⟨[(.tup [])],[c,c],[]⟩⟩
abbrev ei3 :Alt:=⟨.ret,[],⟨[(.tup [])],[l,c],[]⟩⟩
abbrev ei4 :Alt:=⟨.ret,[],⟨[(.tup [])],[bd2,c],[]⟩⟩
abbrev ei5 :Alt:=⟨.ret,[],⟨[(.tup [])],[bd3,c],[]⟩⟩
abbrev cv6 :Alt:=⟨.ret,[],⟨[(.tup [a,a])],[],[]⟩⟩
abbrev ei6 :Alt:=⟨.ret,[],⟨[(.tup [a,j])],[],[]⟩⟩
abbrev dV0 :Alt:=⟨.ret,[],⟨[(.tup [i,i])],[],[]⟩⟩
abbrev dV1 :OSk:=(.cells 1 Zb [a,a,(.leaf zh3)])
abbrev ei7 :OSk:=(.cells 1 Zb [a,a,a,g])
abbrev dz1 :OSk:=(.cells 1 Zb [a,a,a,bc7])
abbrev ei8 :OSk:=(.cells 1 Zb [a,a,a,bw4])
abbrev ei9 :OSk:=(.cells 1 Zb [a,a,a,bj0])
abbrev ej0 :OSk:=(.cells 1 Zb [a,a,a,a])
abbrev ej1 :OSk:=(.cells 1 Zb [j,j,j,j])
abbrev ej2 :Alt:=⟨.normal,[0,2],⟨[i,a],[],[]⟩⟩
abbrev ej3 :Alt:=⟨.normal,[7,8],⟨[a,a],[],[]⟩⟩
abbrev ej4 :OSk:=(.cells 1 Za [a,a,a,bj0])
abbrev dV2 :Alt:=⟨.ret,[],⟨[],[c,c,dh3],[]⟩⟩
abbrev ej5 :Alt:=⟨.ret,[],⟨[(.cint .i64 1)],[],[]⟩⟩
abbrev dK4 :Alt:=⟨.ret,[],⟨[(.full 10)],[],[c]⟩⟩
abbrev ej6 :Alt:=⟨.ret,[],⟨[(.full 11)],[],[c]⟩⟩
abbrev ej7 :Alt:=⟨.ret,[],⟨[a],[c,c],[]⟩⟩
abbrev ej8 :Alt:=⟨.ret,[],⟨[(.full 0)],[],[m]⟩⟩
abbrev dV3 :Alt:=⟨.ret,[],⟨[(.full 0)],[],[c]⟩⟩
abbrev dV4 :Alt:=⟨.ret,[],⟨[(.full 9)],[],[c]⟩⟩
abbrev dz2 :Alt:=⟨.ret,[],⟨[(.tup [])],[c],[]⟩⟩
abbrev dV5 :Alt:=⟨.ret,[],⟨[(.tup [])],[l],[]⟩⟩
abbrev ej9 :Alt:=⟨.normal,[3],⟨[v],[],[m]⟩⟩
abbrev dz3 :OSk:=(.cells 1 Zb [(.full 10),a])
abbrev ek0 :OSk:=(.cells 1 Zb [(.full 11),a])
abbrev dV6 :OSk:=(.cells 1 Za [(.full 11),a])
abbrev ek1 :OSk:=(.cells 1 Za [(.full 12),a])
abbrev cY7 :OSk:=(.cells 1 Za [(.full 7),a])
abbrev cY8 :Alt:=⟨.normal,[6],⟨[a],[],[]⟩⟩
abbrev dM7 :Alt:=⟨.ret,[],⟨[a],[m],[]⟩⟩
abbrev dy2 :Alt:=⟨.ret,[],⟨[a],[c],[]⟩⟩
abbrev dM8 :Alt:=⟨.ret,[],⟨[a],[l],[]⟩⟩
abbrev cj3 :Alt:=⟨.ret,[],⟨[a],[cv5],[]⟩⟩
abbrev dM9 :Alt:=⟨.ret,[],⟨[bw5],[],[l]⟩⟩
abbrev cY9 :OSk:=(.cells 1 Zb [v,a])
abbrev cj4 :OSk:=(.cells 1 Za [v,a])
abbrev cI7 :OSk:=(.cells 1 Za [w,a])
abbrev cj5 :OSk:=(.cells 1 Za [a,as9])
abbrev cI8 :Alt:=⟨.ret,[],⟨[i],[],[]⟩⟩
abbrev cI9 :Alt:=⟨.ret,[],⟨[dJ1],[],[]⟩⟩
abbrev cj6 :OSk:=(.cells 1 Zb [a])
abbrev av3 :OSk:=(.cells 1 Za [a])
def bY9 :FSum:=⟨132,[j,a],[],[q],by exact u2 ot⟩
theorem ay4 :Rt bY9:=rq (.no) (.nil _) λ_=>by kernel_rfl
def aW1 :FSum:=⟨82,[zN],[],[q],by exact u9 jf⟩
theorem aX6 :Rt aW1:=rq (.no) (.cons ay4 (.nil _)) λ_=>by kernel_rfl
def ck7 :FSum:=⟨52,[as9],[],[dK2],rf⟩
theorem aJ6 :Rt ck7:=bj (ins:=[⟨93,bl aB 93 ⟨[],[⟨94,bl aB 94 ⟨[],[]⟩ .no⟩]⟩ (.n .no (.n .no (.n .no (.n .no (.n (.n .no (.n (.lp [1,3] ⟨.normal,[11,5,6],⟨[a,vq,j],[m,(.cells 1 Zb [xC])],[m,m]⟩⟩ [⟨(.exit 0),[6,5],⟨[j,vq],[m,(.cells 1 Zb [xC])],[m,m]⟩⟩] (.n .no (.n .no (.n (.n (.n .no (.jn [] [4] [⟨(.exit 0),[6,5],⟨[j,(.full 7)],[],[m]⟩⟩,⟨.normal,[5,6],⟨[(.full 7),j],[],[m]⟩⟩] eg7 .no)) .no) .no)))) .no)) .no)))))⟩]) (at':= .no) (.nil _) (aa.cons (am (.nil _) (aa.cons (am (.nil _) (aa.nil _)) (aa.nil _))) (aa.nil _)) λ_=>by kernel_rfl
def ck3 :FSum:=⟨190,[j,a],[],[q],by exact u2 i3⟩
theorem ai3 :Rt ck3:=rq (.no) (.nil _) λ_=>by kernel_rfl
def cw2 :FSum:=⟨203,[a],[],[eh4],w7⟩
theorem bD0 :Rt cw2:=rq ((.n .no (.n (.n .no (.n (.jn [] [] [⟨.normal,[4],⟨[j],[],[]⟩⟩] .no eg9) .no)) .no))) (.nil _) λ_=>by kernel_rfl
def bM2 :FSum:=⟨259,[a],[],[o],al1⟩
theorem bN7 :Rt bM2:=rq (.no) (.nil _) λ_=>by kernel_rfl
def bp6 :FSum:=⟨260,[a,j],[],[o],by exact u2 mw⟩
theorem bq5 :Rt bp6:=rq (.no) (.nil _) λ_=>by kernel_rfl
def bM1 :FSum:=⟨246,[cd8],[],[o],by exact u5 xP⟩
theorem bN6 :Rt bM1:=rq (.no) (.cons bD0 (.cons bN7 (.cons bq5 (.nil _)))) λ_=>by kernel_rfl
def aE6 :FSum:=⟨245,[cd8],[],[o],by exact u5 tg⟩
theorem aH8 :Rt aE6:=rq (.no) (.cons bN6 (.nil _)) λ_=>by kernel_rfl
def yi :FSum:=⟨261,[as9,(.fn 245 [] [])],[],[q],jz⟩
theorem yt :Rt yi:=rq (dJ4) (.cons aH8 (.nil _)) λ_=>by kernel_rfl
def wl :FSum:=⟨247,[as9,(.fn 245 [] [])],[],[o],iz⟩
theorem wt :Rt wl:=rq (.no) (.cons yt (.nil _)) λ_=>by kernel_rfl
def uS :FSum:=⟨199,[aq4],[],[q],by exact u2 eg⟩
theorem ab3 :Rt uS:=rq (.no) (.cons aJ6 (.cons ai3 (.cons wt (.nil _)))) λ_=>by kernel_rfl
def ax7 :FSum:=⟨198,[(.full 0)],[m],[⟨.ret,[],⟨[(.tup [])],[m],[]⟩⟩],bk⟩
theorem ay6 :Rt ax7:=rq ((.n .no (.n (.lp [0] ⟨.normal,[2,3],⟨[a,a],[m],[]⟩⟩ [⟨(.exit 0),[],⟨[],[m],[]⟩⟩] .no) .no))) (.nil _) λ_=>by kernel_rfl
def bM0 :FSum:=⟨147,[cd8],[],[ej8],by exact u5 xO⟩
theorem bN5 :Rt bM0:=rq ((.n .no (.n .no (.jn [] [] [ej9] (.n .no (.n (.jn [] [] [ej9,⟨(.exit 0),[3],⟨[NS],[],[]⟩⟩] (.n (.jn [] [] [dy7,⟨(.exit 2),[],⟨[],[],[]⟩⟩,bF4] .no .no) .no) .no) .no)) .no)))) (.cons ay6 (.nil _)) λ_=>by kernel_rfl
def bG1 :FSum:=⟨151,[cd8],[],[ei6],by exact u5 nc⟩
theorem aN9 :Rt bG1:=rq (.no) (.cons bD0 (.nil _)) λ_=>by kernel_rfl
def aa5 :FSum:=⟨249,[a,g],[cj5],[o],by exact u3 ly⟩
theorem ab4 :Rt aa5:=rq (.no) (.nil _) λ_=>by kernel_rfl
def am6 :FSum:=⟨175,[(.leaf zh3),(.fn 249 [] [g])],[cj5],[q],by exact u3 pi⟩
theorem an4 :Rt am6:=rq (dJ4) (.cons ab4 (.nil _)) λ_=>by kernel_rfl
def ab0 :FSum:=⟨120,[(.leaf zh3),(.fn 249 [] [g])],[cj5],[o],by exact u3 eo⟩
theorem ac0 :Rt ab0:=rq (.no) (.cons an4 (.nil _)) λ_=>by kernel_rfl
def ai1 :FSum:=⟨248,[cd8,g],[cj5],[o],by exact u7 jm⟩
theorem ai4 :Rt ai1:=rq ((.n .no (.n .no (.jn [] [2] [⟨.normal,[4],⟨[y],[],[m]⟩⟩] .no .no)))) (.cons bN5 (.cons aN9 (.cons ac0 (.nil _)))) λ_=>by kernel_rfl
def wR :FSum:=⟨261,[as9,(.fn 248 [] [g])],[cj5],[q],by exact u3 i6⟩
theorem wV :Rt wR:=rq (dJ4) (.cons ai4 (.nil _)) λ_=>by kernel_rfl
def vD :FSum:=⟨247,[as9,(.fn 248 [] [g])],[cj5],[o],by exact u3 ij⟩
theorem vF :Rt vD:=rq (.no) (.cons wV (.nil _)) λ_=>by kernel_rfl
def qt :FSum:=⟨200,[aq4],[],[q],by exact u2 er⟩
theorem vL :Rt qt:=rq (.no) (.cons ai3 (.cons vF (.nil _))) λ_=>by kernel_rfl
def cw1 :FSum:=⟨250,[as9],[],[cv6],at3⟩
theorem cx5 :Rt cw1:=bj (ins:=[⟨93,bl aB 93 ⟨[],[⟨262,bl aB 262 ⟨[],[]⟩ .no⟩]⟩ (.n .no (.n .no (.n .no (.n .no (.n (.n .no (.n (.lp [1] ⟨.normal,[11,5,6],⟨[a,w,j],[cj6],[m]⟩⟩ [⟨(.exit 0),[6,5],⟨[j,w],[cj6],[m]⟩⟩] (.n .no (.n .no (.n (.n (.n .no (.jn [] [2] [⟨(.exit 0),[6,5],⟨[j,vq],[],[m]⟩⟩,⟨.normal,[5,6],⟨[vq,j],[],[m]⟩⟩] eg7 .no)) .no) .no)))) .no)) .no)))))⟩]) (at':= .no) (.nil _) (aa.cons (am (.nil _) (aa.cons (am (.nil _) (aa.nil _)) (aa.nil _))) (aa.nil _)) λ_=>by kernel_rfl
def ur :FSum:=⟨201,[aq4],[],[q],by exact u2 iq⟩
theorem yU :Rt ur:=rq (.no) (.cons cx5 (.cons ai3 (.nil _))) λ_=>by kernel_rfl
def cm2 :FSum:=⟨149,[a,i],[],[ei6],by exact u2 xW⟩
theorem co1 :Rt cm2:=rq (.no) (.nil _) λ_=>by kernel_rfl
def cJ8 :FSum:=⟨150,[(.leaf zh3)],[],[q],al5⟩
theorem cK1 :Rt cJ8:=rq ((.n .no (.n .no (.n (.n .no (.n (.lp [] ⟨.normal,[8,3],⟨[a,a],[],[]⟩⟩ [cZ2] .no) .no)) .no)))) (.nil _) λ_=>by kernel_rfl
def bM7 :FSum:=⟨95,[as9],[],[⟨.ret,[],⟨[(.tup [(.full 0),v,a,a])],[],[m,m]⟩⟩],ph⟩
theorem aY3 :Rt bM7:=rq ((.n .no (.n .no (.n (.dr [0,1,3,4,2,6,5,7]) (.n .no (.n .no (.n (.n .no (.n (.lp [1,2] ⟨.normal,[34,8,5],⟨[a,vq,p],[m,m],[bc9]⟩⟩ [⟨(.exit 0),[5,8],⟨[a,vq],[m,m],[bc9]⟩⟩] .no) .no)) (.jn [] [] [cZ3] .no .no)))))))) (.cons aJ6 (.cons co1 (.cons aN9 (.cons cK1 (.nil _))))) λ_=>by kernel_rfl
def ax6 :FSum:=⟨135,[as9],[],[cv6],gv⟩
theorem ug :Rt ax6:=rq (.no) (.cons aY3 (.nil _)) λ_=>by kernel_rfl
def tK :FSum:=⟨202,[aq4],[],[q],by exact u2 gy⟩
theorem yj :Rt tK:=rq (.no) (.cons ug (.nil _)) λ_=>by kernel_rfl
def ck2 :FSum:=⟨133,[aq4,aq4],[],[q],by exact u4 vt⟩
theorem cm9 :Rt ck2:=bj (ins:=[⟨92,bl aB 92 ⟨[uS,qt,ur,tK],[⟨148,bl aB 148 ⟨[],[]⟩ .no⟩]⟩ (.n .no (.n .no (.n dN1 (.n (.n .no (.n (.n dJ6 (.n dJ6 (.n dJ6 (.n dJ6 (.n .no .no))))) .no)) .no))))⟩]) (at':= .no) (.nil _) (aa.cons (am (.cons ab3 (.cons vL (.cons yU (.cons yj (.nil _))))) (aa.cons (am (.nil _) (aa.nil _)) (aa.nil _))) (aa.nil _)) λ_=>by kernel_rfl
def ax5 :FSum:=⟨83,[zN],[],[q],by exact u9 dk⟩
theorem ay5 :Rt ax5:=rq (.no) (.cons cm9 (.nil _)) λ_=>by kernel_rfl
def ck1 :FSum:=⟨134,[aq4,aq4,a,a],[],[q],by exact u6 xF⟩
theorem cm8 :Rt ck1:=rq (eg9) (.cons ai3 (.nil _)) λ_=>by kernel_rfl
def aW0 :FSum:=⟨84,[zN],[],[q],by exact u9 mf⟩
theorem aX5 :Rt aW0:=rq (.no) (.cons cm8 (.nil _)) λ_=>by kernel_rfl
def aH0 :FSum:=⟨85,[zN],[],[q],by exact u9 jx⟩
theorem aJ1 :Rt aH0:=rq ((.n .no eg8)) (.cons ay4 (.nil _)) λ_=>by kernel_rfl
def aG9 :FSum:=⟨86,[zN],[],[q],by exact u9 jw⟩
theorem aJ0 :Rt aG9:=rq (.no) (.cons ay4 (.nil _)) λ_=>by kernel_rfl
def bL5 :FSum:=⟨42,[zN],[],[q],by exact u9 pe⟩
theorem aX4 :Rt bL5:=rq ((.n .no (.n .no (.n (.n .no (.n (.lp [] ⟨.normal,[20],⟨[a],[],[]⟩⟩ [⟨.ret,[2],⟨[a],[],[]⟩⟩,bF4] .no) .no)) .no)))) (.cons aX6 (.cons ay5 (.cons aX5 (.cons aJ1 (.cons aJ0 (.nil _)))))) λ_=>by kernel_rfl
def cZ4 :FSum:=⟨87,[zN],[],[cv6],by exact u9 lf⟩
theorem sQ :Rt cZ4:=rq (.no) (.cons aX4 (.cons ug (.nil _))) λ_=>by kernel_rfl
def ck8 :FSum:=⟨43,[zN],[],[⟨.ret,[],⟨[(.agg [a,a,a,a,a,a,a,a,a])],[],[]⟩⟩],by exact u9 xR⟩
theorem bq6 :Rt ck8:=rq ((.n .no (.n .no (.n .no (.n .no (.jn [] [] [ej3] .no .no)))))) (.cons sQ (.nil _)) λ_=>by kernel_rfl
def cJ4 :FSum:=⟨88,[(.agg [a,a,a,a,a,a,a,a,a]),a],[],[ej8],by exact u10 al2⟩
theorem bN8 :Rt cJ4:=bj (ins:=[⟨136,bl aB 136 ⟨[],[]⟩ .no⟩]) (at':=(.n .no (.n .no (.n .no (.n .no (.n (.n .no (.n (.lp [1] ⟨.normal,[10,7],⟨[a,w],[cj6],[m]⟩⟩ [⟨(.exit 0),[7],⟨[w],[cj6],[m]⟩⟩] .no) .no)) .no)))))) (.nil _) (aa.cons (am (.nil _) (aa.nil _)) (aa.nil _)) λ_=>by kernel_rfl
def cw4 :FSum:=⟨44,[(.agg [a,a,a,a,a,a,a,a,a]),a],[],[q],by exact u10 aa3⟩
theorem cx6 :Rt cw4:=rq (.no) (.cons bN8 (.nil _)) λ_=>by kernel_rfl
def cw3 :FSum:=⟨21,[zN],[],[⟨.ret,[],⟨[(.tup [(.agg [a,a,a,a]),a])],[],[]⟩⟩],by exact u9 ou⟩
theorem aX9 :Rt cw3:=rq ((.n .no (.n .no (.n .no (.n .no (.jn [] [] [cY8] .no (.n .no (.n .no (.n (.n .no (.n (.lp [3] ⟨.normal,[35],⟨[a],[ej0],[]⟩⟩ [⟨(.exit 0),[],⟨[],[ej0],[]⟩⟩] .no) .no)) .no))))))))) (.cons aX4 (.cons bq6 (.cons cx6 (.nil _)))) λ_=>by kernel_rfl
def bZ0 :FSum:=⟨45,[zN,a],[],[o],by exact u10 av9⟩
theorem ca7 :Rt bZ0:=rq (.no) (.nil _) λ_=>by kernel_rfl
def cl1 :FSum:=⟨192,[as9],[],[o],vx⟩
theorem aJ8 :Rt cl1:=rq ((.n .no (.n .no (.n (.n .no (.n (.lp [] ⟨.normal,[4,3],⟨[a,a],[],[]⟩⟩ [dy5,cZ2] (.n .no (.n (.n eg8 .no) .no))) .no)) .no)))) (.nil _) λ_=>by kernel_rfl
def ck9 :FSum:=⟨193,[a],[],[eh4],rh⟩
theorem aJ7 :Rt ck9:=rq ((.n .no (.jn [0] [] [⟨.ret,[],⟨[],[ej1],[]⟩⟩,⟨.normal,[],⟨[],[ej1],[]⟩⟩] .no .no))) (.nil _) λ_=>by kernel_rfl
def bZ3 :FSum:=⟨257,[cd8],[],[o],by exact u5 zQ⟩
theorem cb0 :Rt bZ3:=rq ((.n .no (.n .no (.n .no (.n .no (.n (.n .no (.n (.lp [] cZ3 [dy5,bF4] .no) .no)) .no)))))) (.cons aJ7 (.nil _)) λ_=>by kernel_rfl
def cl5 :FSum:=⟨241,[aq4],[],[o],by exact u2 ah8⟩
theorem cn5 :Rt cl5:=rq (ef2) (.cons aJ8 (.cons cb0 (.nil _))) λ_=>by kernel_rfl
def bp7 :FSum:=⟨242,[aq4],[],[o],by exact u2 uE⟩
theorem bq7 :Rt bp7:=rq (ef2) (.cons aJ7 (.nil _)) λ_=>by kernel_rfl
def bM3 :FSum:=⟨258,[as9,a],[],[q],by exact u2 xS⟩
theorem bN9 :Rt bM3:=rq (ef6) (.nil _) λ_=>by kernel_rfl
def cl0 :FSum:=⟨243,[as9],[],[cv6],ah6⟩
theorem cn1 :Rt cl0:=rq ((.n .no (.n .no (.n .no (.n (.n .no (.n (.lp [] ⟨.normal,[5,4],⟨[a,a],[],[]⟩⟩ [⟨(.exit 0),[4],⟨[a],[],[]⟩⟩] .no) .no)) .no))))) (.cons aJ8 (.cons bN9 (.nil _))) λ_=>by kernel_rfl
def bZ4 :FSum:=⟨139,[as9],[],[dK2],wk⟩
theorem cb1 :Rt bZ4:=rq ((.n .no (.n .no (.n .no (.n (.n .no (.n (.lp [] ⟨.normal,[5,4],⟨[a,v],[],[m]⟩⟩ [⟨(.exit 0),[4],⟨[v],[],[m]⟩⟩] .no) .no)) (.n (.n .no (.n (.lp [1] ⟨.normal,[6],⟨[a],[m],[]⟩⟩ [⟨(.exit 2),[],⟨[],[m],[]⟩⟩] (.n .no (.n (.n (.n .no (.n .no (.n .no (.n (.n (.lp [] ej3 [⟨(.exit 4),[8],⟨[a],[],[]⟩⟩] .no) .no) .no)))) .no) .no))) .no)) .no)))))) (.cons aJ8 (.nil _)) λ_=>by kernel_rfl
def bw8 (n:Nat):FSum:=⟨141,[as9,(.leaf zh3),a,a],[],[q],λt=>(bm n).1 t.1 t.2.1 t.2.2.1 t.2.2.2⟩
def bG2 (n:Nat):FSum:=⟨140,[as9,(.leaf zh3),a],[],[q],λt=>(bm n).2 t.1 t.2.1 t.2.2⟩
theorem tW : ∀n,an6 aB (bw8 n)/\an6 aB (bG2 n)
 |0=>⟨bV5 (λt=>rfl),bV5 (λt=>rfl)⟩
 |n+1=>⟨rq ((.n .no (.n .no (.n (.n .no (.n (.lp [] ⟨.normal,[10,9],⟨[a,a],[],[]⟩⟩ [⟨.ret,[8],⟨[(.cint .i64 65537)],[],[]⟩⟩,⟨(.exit 0),[9],⟨[a],[],[]⟩⟩] .no) .no)) .no)))) (.cons (tW n).2 (.cons aJ7 (.nil _))) (λ_=>by kernel_rfl),rq (.no) (.cons (tW n).1 (.nil _)) (λ_=>by kernel_rfl)⟩
def bM5 :FSum:=⟨141,[as9,(.leaf zh3),a,a],[],[q],by exact u4 sM⟩
theorem bO0 :Rt bM5:=(tW 400).1
def bZ5 :FSum:=⟨140,[as9,(.leaf zh3),a],[],[q],by exact u3 zR⟩
theorem cb2 :Rt bZ5:=(tW 400).2
def bM4 :FSum:=⟨90,[as9],[],[cv6],sL⟩
theorem aY0 :Rt bM4:=rq ((.n .no (.n .no (.n .no (.n (.n .no (.n (.lp [] cY8 [⟨.ret,[2,3],⟨[p,(.cint .i64 9)],[],[]⟩⟩,bF4] .no) .no)) .no))))) (.cons cb1 (.cons cb2 (.cons bO0 (.nil _)))) λ_=>by kernel_rfl
def cl3 :FSum:=⟨191,[aq4,a],[],[q],by exact u3 xT⟩
theorem cn3 :Rt cl3:=rq (.no) (.cons cn5 (.cons bq7 (.cons cn1 (.cons aY0 (.nil _))))) λ_=>by kernel_rfl
def cl4 :FSum:=⟨137,[aq4,aq4],[],[q],by exact u4 ah7⟩
theorem cn4 :Rt cl4:=rq ((.n .no (.n (.n .no (.n (.lp [] cZ3 [dy6,bF4] .no) .no)) .no))) (.cons cn3 (.nil _)) λ_=>by kernel_rfl
def cl2 :FSum:=⟨138,[aq4,aq4,a,a],[],[q],by exact u6 vy⟩
theorem cn2 :Rt cl2:=rq (.no) (.nil _) λ_=>by kernel_rfl
def bZ6 :FSum:=⟨89,[zN],[],[q],by exact u9 zS⟩
theorem cb3 :Rt bZ6:=rq (.no) (.cons cn4 (.cons cn2 (.nil _))) λ_=>by kernel_rfl
def cJ5 :FSum:=⟨46,[zN],[],[cv6],by exact u9 aE1⟩
theorem cK0 :Rt cJ5:=rq (.no) (.cons cb3 (.cons aY0 (.nil _))) λ_=>by kernel_rfl
def bZ1 :FSum:=⟨22,[zN],[],[o],by exact u9 se⟩
theorem ca8 :Rt bZ1:=rq (.no) (.cons ca7 (.cons cK0 (.nil _))) λ_=>by kernel_rfl
def cw9 :FSum:=⟨5,[zN],[],[o],by exact u9 mh⟩
theorem cy1 :Rt cw9:=rq (.no) (.cons aX9 (.cons ca8 (.nil _))) λ_=>by kernel_rfl
def bG0 :FSum:=⟨23,[],[],[⟨.ret,[],⟨[(.agg [(.cint .i64 1),(.full 0),v,(.cint .i64 3),w,(.cint .i64 2),NS,(.cint .i64 3),(.cint .i64 100)])],[],[(.cells 1 Zb [(.cint .u64 5)]),(.cells 1 Zb [(.cint .u64 2)]),(.cells 5 Zb [(.cint .i64 1),p,p,(.cint .i64 2),(.cint .u64 0)])]⟩⟩],λ_=>aN3⟩
theorem bH2 :Rt bG0:=rq (.no) (.nil _) λ_=>by kernel_rfl
def ae1 :FSum:=⟨97,[.leaf ec8],[],ao3 dx6,fi⟩
theorem ae4 :Rt ae1:=aZ1 (es:=5) (bytes:=40) (z:=[(.int .i64 0),(.int .i64 0),(.int .i64 0),(.int .i64 0),(.int .u64 0)]) (s:=dx6) (by kernel_rfl) (λ_=>by kernel_rfl) (λ_=>by kernel_rfl) (by kernel_rfl)
def ni :FSum:=⟨73,[.leaf zh2],[],ao3 zh1,aq⟩
theorem cj :Rt ni:=aZ1 (es:=1) (bytes:=8) (z:=[(.int .u64 0)]) (s:=zh1) (by kernel_rfl) (λ_=>by kernel_rfl) (λ_=>by kernel_rfl) (by kernel_rfl)
def bZ2 :FSum:=⟨98,[zN],[],[dK2],by exact u9 zP⟩
theorem ca9 :Rt bZ2:=rq (.no) (.cons aX9 (.cons bq6 (.cons bN8 (.nil _)))) λ_=>by kernel_rfl
def bY1 :FSum:=⟨56,[zN],[],[cJ0,⟨.ret,[],⟨[bw5],[],[(.cells 1 Zb [a,a,a,a,a,v,w,a,y,a,vq,a,a,xC, .nilp, .nilp, .nilp,a,p,(.cint .i64 (-1)),p,p,p,p,(.cint .u64 0)]),c,c,r,r,m]⟩⟩],by exact u9 wh⟩
theorem bj5 :Rt bY1:=rq (.no) (.cons aX9 (.cons ae4 (.cons cj (.cons ca9 (.nil _))))) λ_=>by kernel_rfl
def bX9 :FSum:=⟨99,[a],[],[q],wc⟩
theorem bj4 :Rt bX9:=rq (.no) (.nil _) λ_=>by kernel_rfl
def cv7 :FSum:=⟨57,[a],[],[eh0],aa0⟩
theorem cx2 :Rt cv7:=rq (.no) (.cons bj4 (.nil _)) λ_=>by kernel_rfl
def bL8 :FSum:=⟨100,[a,a,a],[],[eh6,dM9],by exact u3 uL⟩
theorem bN4 :Rt bL8:=rq (.no) (.nil _) λ_=>by kernel_rfl
def cw0 :FSum:=⟨58,[a],[],[dM9],at1⟩
theorem cx4 :Rt cw0:=rq (.no) (.cons bN4 (.nil _)) λ_=>by kernel_rfl
def aH5 :FSum:=⟨101,[g,a,a],[k],[o],by exact u5 tv⟩
theorem aJ5 :Rt aH5:=rq (.no) (.nil _) λ_=>by kernel_rfl
def bh4 :FSum:=⟨102,[g,a],[l],[dV5],by exact u4 nv⟩
theorem ag9 :Rt bh4:=rq (.no) (.nil _) λ_=>by kernel_rfl
def i8 :FSum:=⟨59,[g,a],[l],[dM8],by exact u4 bx⟩
theorem cu :Rt i8:=rq (.no) (.cons aJ5 (.cons ag9 (.nil _))) λ_=>by kernel_rfl
def bk8 :FSum:=⟨103,[g],[cj4,b],[q],by exact u2 wN⟩
theorem bl9 :Rt bk8:=rq (.no) (.nil _) λ_=>by kernel_rfl
def am3 :FSum:=⟨60,[g,a],[cY9,b],[⟨.ret,[],⟨[(.tup [a,a])],[cY9],[]⟩⟩],by exact u3 cg⟩
theorem wS :Rt am3:=rq (.no) (.cons bl9 (.nil _)) λ_=>by kernel_rfl
def aA1 :FSum:=⟨61,[g],[bd1,b,b,d,d,h,yD,k,b],[o],by exact u27 gi⟩
theorem xh :Rt aA1:=rq (.no) (.nil _) λ_=>by kernel_rfl
def bp8 :FSum:=⟨104,[(.agg [a,a,a])],[],[o],by exact u3 rn⟩
theorem au0 :Rt bp8:=rq (.no) (.nil _) λ_=>by kernel_rfl
def am7 :FSum:=⟨105,[(.agg [a,a,a])],[],[q],by exact u3 dn⟩
theorem tX :Rt am7:=rq (.no) (.nil _) λ_=>by kernel_rfl
def vX :FSum:=⟨106,[g,a,wZ],[cj4,c],[dy2],by exact u4 da⟩
theorem ik :Rt vX:=bj (ins:=[⟨152,bl aB 152 ⟨[],[⟨154,bl aB 154 ⟨[],[]⟩ .no⟩]⟩ .no⟩]) (at':= .no) (.nil _) (aa.cons (am (.nil _) (aa.cons (am (.nil _) (aa.nil _)) (aa.nil _))) (aa.nil _)) λ_=>by kernel_rfl
def cw6 :FSum:=⟨62,[g,a,a],[cY9,c],[⟨.ret,[],⟨[(.tup [(.ptr 2 0),p])],[cY9,c],[ei7]⟩⟩],by exact u4 aU7⟩
theorem cx8 :Rt cw6:=rq (.no) (.cons au0 (.cons tX (.cons wS (.cons ik (.nil _))))) λ_=>by kernel_rfl
def am4 :FSum:=⟨63,[g,a,wZ],[bd1,b,b,d,d,h,yD,k,c],[dz2],by exact u29 aj⟩
theorem fg :Rt am4:=rq (.no) (.cons ik (.nil _)) λ_=>by kernel_rfl
def aa6 :FSum:=⟨63,[g,a,wZ],[bd0,b,b,d,d,h,x,yF,k,c],[dz2],by exact u32 ah⟩
theorem dh :Rt aa6:=rq (.no) (.cons ik (.nil _)) λ_=>by kernel_rfl
def cv8 :FSum:=⟨29,[zN],[],[cJ0,⟨.ret,[],⟨[bw5],[],[(.cells 1 Zb [a,a,a,a,a,v,w,a,y,a,vq,a,a,xC,bJ0, .nilp,bc7,a,p,(.cint .i64 (-1)),p,p,p,p,(.cint .u64 0)]),c,c,r,r,m,cZ0,l,c]⟩⟩,⟨.ret,[],⟨[bw5],[],[(.cells 1 Zb [a,a,a,a,a,v,w,a,y,a,vq,a,a,xC,bJ0,bc7,bw4,a,p,(.cint .i64 (-1)),p,p,p,p,(.cint .u64 0)]),c,c,r,r,m,cZ1,dy4,l,c]⟩⟩],by exact u9 w6⟩
theorem cx3 :Rt cv8:=rq ((.n .no (.n .no (.n .no (.n .no (.n .no (.n .no (.n .no (.jn [1,7,8] [] [⟨.normal,[],⟨[],[(.cells 1 Zb [a,a,a,a,a,w,y,a,vq,a,xC,a,a,(.full 6),bc7, .nilp,bj0,a,p,(.cint .i64 (-1)),p,p,p,p,(.cint .u64 0)]),cZ0,c],[]⟩⟩,⟨.normal,[],⟨[],[(.cells 1 Zb [a,a,a,a,a,w,y,a,vq,a,xC,a,a,(.full 6),bc7,(.ptr 10 0),bj0,a,p,(.cint .i64 (-1)),p,p,p,p,(.cint .u64 0)]),cZ0,c],[dz1]⟩⟩] .no .no))))))))) (.cons bj5 (.cons cx2 (.cons cx4 (.cons cu (.cons wS (.cons xh (.cons cx8 (.cons fg (.cons dh (.nil _)))))))))) λ_=>by kernel_rfl
def cv9 :FSum:=⟨30,[zN, .nilp],[],[⟨.ret,[],⟨[g],[],[(.cells 1 Zb [.nilp,a,cI5,j,j])]⟩⟩],by exact u9 aU4⟩
theorem bC9 :Rt cv9:=rq (.no) (.nil _) λ_=>by kernel_rfl
def bY4 :FSum:=⟨30,[zN,g],[bd1,b,b,d,d,h,yD,k,b],[⟨.ret,[],⟨[bj0],[],[(.cells 1 Zb [g,a,dh1,j,j])]⟩⟩],by exact u36 sa⟩
theorem bj6 :Rt bY4:=rq (.no) (.nil _) λ_=>by kernel_rfl
def bY5 :FSum:=⟨30,[zN,g],[bd0,b,b,d,d,h,x,yF,k,b],[⟨.ret,[],⟨[(.ptr 10 0)],[],[(.cells 1 Zb [g,a,cI5,j,j])]⟩⟩,⟨.ret,[],⟨[(.ptr 10 0)],[],[(.cells 1 Zb [g,a,dh2,j,j])]⟩⟩],by exact u39 iy⟩
theorem bj7 :Rt bY5:=rq (.no) (.nil _) λ_=>by kernel_rfl
def ck4 :FSum:=⟨12,[zN],[],[cJ0,⟨.ret,[],⟨[bw5],[],[dK0,(.cells 1 Zb [a,a,a,a,a,w,y,a,vq,a,xC,a,a,(.full 6),bc7, .nilp,bw4,a,p,(.cint .i64 (-1)),p,p,p,p,(.cint .u64 0)]),c,c,r,r,m,cZ1,l,c]⟩⟩,⟨.ret,[],⟨[bw5],[],[dJ9,zw5,c,c,r,r,m,dz3,dz1,l,c]⟩⟩,⟨.ret,[],⟨[bw5],[],[dK1,zw5,c,c,r,r,m,dz3,dz1,l,c]⟩⟩],by exact u9 ig⟩
theorem aI9 :Rt ck4:=rq (.no) (.cons cx3 (.cons bC9 (.cons bj6 (.cons bj7 (.nil _))))) λ_=>by kernel_rfl
def bl3 :FSum:=⟨109,[.nilp],[],[⟨.ret,[],⟨[NS],[],[]⟩⟩],λ_=>tG⟩
theorem wW :Rt bl3:=rq (.no) (.nil _) λ_=>by kernel_rfl
def bg6 :FSum:=⟨67,[g],[bd1,b,b,d,d,h,yD,k,b],[dU9],by exact u27 vU⟩
theorem ag5 :Rt bg6:=rq (.no) (.cons wW (.nil _)) λ_=>by kernel_rfl
def aV7 :FSum:=⟨32,[g],[bC2,bc8,b,b,d,d,h,x,k,b],[dU9],by exact u30 me⟩
theorem uZ :Rt aV7:=bj (ins:=[⟨27,bl aB 27 ⟨[],[]⟩ .no⟩]) (at':= .no) (.cons ag5 (.nil _)) (aa.cons (am (.nil _) (aa.nil _)) (aa.nil _)) λ_=>by kernel_rfl
def bk9 :FSum:=⟨112,[g],[bd1,b,b,d,d,h,yD,k,b],[q],by exact u27 ak8⟩
theorem bm0 :Rt bk9:=rq (.no) (.nil _) λ_=>by kernel_rfl
def bh1 :FSum:=⟨74,[g],[bC2,bc8,b,b,d,d,h,x,k,b],[q],by exact u30 nu⟩
theorem ag8 :Rt bh1:=bj (ins:=[⟨27,bl aB 27 ⟨[],[]⟩ .no⟩]) (at':= .no) (.cons bm0 (.nil _)) (aa.cons (am (.nil _) (aa.nil _)) (aa.nil _)) λ_=>by kernel_rfl
def bp2 :FSum:=⟨66,[g],[bC2,bc8,b,b,d,d,h,x,k,b],[dU6],by exact u30 re⟩
theorem at8 :Rt bp2:=rq ((.n .no (.n .no (.n (.n (.jn [] [] [⟨.normal,[7],⟨[j],[],[]⟩⟩] .no .no) .no) .no)))) (.cons uZ (.cons ag8 (.nil _))) λ_=>by kernel_rfl
def am2 :FSum:=⟨96,[g,a,a],[cj4,b],[⟨.ret,[],⟨[(.tup [w,a])],[],[c]⟩⟩],by exact u4 co⟩
theorem lg :Rt am2:=bj (ins:=[⟨152,bl aB 152 ⟨[],[⟨153,bl aB 153 ⟨[ni],[]⟩ .no⟩]⟩ .no⟩]) (at':= .no) (.nil _) (aa.cons (am (.nil _) (aa.cons (am (.cons cj (.nil _)) (aa.nil _)) (aa.nil _))) (aa.nil _)) λ_=>by kernel_rfl
def tL :FSum:=⟨55,[g,a],[bd1,b,b,d,d,h,yD,k,b],[dV4],by exact u28 bh⟩
theorem cr :Rt tL:=rq (.no) (.cons lg (.nil _)) λ_=>by kernel_rfl
def aa9 :FSum:=⟨229,[(.leaf (.list zh2))],[],[dV3],ej⟩
theorem tc :Rt aa9:=bj (ins:=[⟨253,bl aB 253 ⟨[],[]⟩ .no⟩]) (at':=(.n .no (.n .no (.n ef9 (.n .no (.n (.n .no (.n (.sz 0 (.lp [] ⟨.normal,[27,6],⟨[a,(.full 0)],[],[c]⟩⟩ [⟨(.exit 2),[6],⟨[(.full 0)],[],[c]⟩⟩] .no) (.lp [] ⟨.normal,[27,6],⟨[a,v],[],[c]⟩⟩ [⟨(.exit 2),[6],⟨[v],[],[c]⟩⟩] .no)) .no)) .no)))))) (.nil _) (aa.cons (am (.nil _) (aa.nil _)) (aa.nil _)) λ_=>by kernel_rfl
def aV0 :FSum:=⟨168,[g,aq4,wZ,wZ],[bd1,b,b,d,d,h,yD,k,b],[dV4],by exact u31 ja⟩
theorem uW :Rt aV0:=rq (.no) (.cons cr (.cons tc (.nil _))) λ_=>by kernel_rfl
def bF5 :FSum:=⟨51,[aq4],[],[q],by exact u2 wB⟩
theorem bG9 :Rt bF5:=bj (ins:=[⟨92,bl aB 92 ⟨[uS,qt,ur,tK],[⟨148,bl aB 148 ⟨[],[]⟩ .no⟩]⟩ (.n .no (.n .no (.n dN2 (.n (.n .no (.n (.n dJ8 (.n dJ8 (.n dJ8 (.n dJ8 (.n .no .no))))) .no)) .no))))⟩]) (at':= .no) (.nil _) (aa.cons (am (.cons ab3 (.cons vL (.cons yU (.cons yj (.nil _))))) (aa.cons (am (.nil _) (aa.nil _)) (aa.nil _))) (aa.nil _)) λ_=>by kernel_rfl
def cm1 :FSum:=⟨53,[as9],[],[dK2],aE4⟩
theorem co0 :Rt cm1:=rq (.no) (.cons aY3 (.nil _)) λ_=>by kernel_rfl
def aV9 :FSum:=⟨194,[aq4],[],[eg6],by exact u2 tb⟩
theorem ab8 :Rt aV9:=rq ((.n .no (.n .no (.n .no (.n .no (.n .no (.n .no (.n (.n .no (.n (.lp [] ⟨.normal,[11,10,9],⟨[a,y,vq],[],[m,(.arr Zb cv4)]⟩⟩ [⟨(.exit 0),[9],⟨[y],[],[(.arr Zb cv4)]⟩⟩] (.n .no (.n (.n (.n .no (.jn [] [3,4] [⟨(.exit 1),[11,10,9],⟨[a,(.full 6),(.full 7)],[],[m,(.arr Zb cv4)]⟩⟩,⟨.normal,[9,11,10],⟨[(.full 6),a,(.full 7)],[],[(.arr Zb cv4),m]⟩⟩] (.n (.jn [] [] [⟨.normal,[43],⟨[j],[],[]⟩⟩] .no .no) .no) .no)) .no) .no))) .no)) .no)))))))) (.cons bG9 (.cons aJ6 (.cons co0 (.nil _)))) λ_=>by kernel_rfl
def cm5 :FSum:=⟨230,[aq4,wZ,wZ],[],[eg6],by exact u4 aE5⟩
theorem co2 :Rt cm5:=rq (.no) (.cons ab8 (.cons ug (.nil _))) λ_=>by kernel_rfl
def bL9 :FSum:=⟨254,[cd8,i,i],[],[cI8],by exact u7 uM⟩
theorem aX8 :Rt bL9:=rq (.no) (.nil _) λ_=>by kernel_rfl
def cw7 :FSum:=⟨231,[(.full 0),v,w],[(.arr Za cv4),c,c],[ej7],by exact u3 at5⟩
theorem cx9 :Rt cw7:=rq ((.n .no (.n .no (.n .no (.n (.lp [1,2,3] ⟨.normal,[8,10,9],⟨[a,a,a],[c,c,dh3],[]⟩⟩ [⟨.ret,[6],⟨[a],[c,c,dh3],[]⟩⟩] .no) .no))))) (.cons aX8 (.nil _)) λ_=>by kernel_rfl
def ca3 :FSum:=⟨169,[(.agg [a,(.full 0)]),v,w],[d,c,c],[⟨.ret,[],⟨[(.tup [a,a])],[c,c],[]⟩⟩],by exact u4 si⟩
theorem zU :Rt ca3:=rq (.no) (.cons co2 (.cons cx9 (.nil _))) λ_=>by kernel_rfl
def uV :FSum:=⟨113,[g],[bd3,b,b,d,d,h,yD,k,c],[⟨.ret,[],⟨[(.tup [(.full 9),(.full 10)])],[bd3,c],[c,c]⟩⟩],by exact u27 jb⟩
theorem uX :Rt uV:=rq (ef8) (.cons sQ (.cons cr (.cons uW (.cons zU (.cons fg (.nil _)))))) λ_=>by kernel_rfl
def aV3 :FSum:=⟨114,[g,a],[bd1,b,b,d,d,h,yD,k,b],[q],by exact u28 md⟩
theorem aX2 :Rt aV3:=rq (.no) (.nil _) λ_=>by kernel_rfl
def aF7 :FSum:=⟨174,[aq4,wZ],[],[dV3],by exact u3 og⟩
theorem vE :Rt aF7:=rq (.no) (.cons cj (.nil _)) λ_=>by kernel_rfl
def xX :FSum:=⟨272,[cd8,i,i],[],[dV0],by exact u7 mv⟩
theorem yq :Rt xX:=rq (.no) (.nil _) λ_=>by kernel_rfl
def bl6 :FSum:=⟨266,[(.agg [(.full 0),v,w]),cd8,a],[c,c,b],[ei2],by exact u9 tJ⟩
theorem bm3 :Rt bl6:=rq (.no) (.cons yq (.nil _)) λ_=>by kernel_rfl
def bl5 :FSum:=⟨255,[(.agg [(.full 0),v,w]),y,a],[c,c,b,(.arr Za cv4)],[ei2],by exact u5 tI⟩
theorem bm2 :Rt bl5:=rq ((.n .no (.n .no (.n .no (.n (.lp [0,1,5] dU4 [dV2] .no) .no))))) (.cons bm3 (.nil _)) λ_=>by kernel_rfl
def cm4 :FSum:=⟨232,[(.agg [a,(.full 0)]),v,w,y],[d,c,c,b],[ej7],by exact u5 tH⟩
theorem ai5 :Rt cm4:=rq (.no) (.cons ab8 (.cons ug (.cons bm2 (.nil _)))) λ_=>by kernel_rfl
def bg7 :FSum:=⟨173,[g,(.agg [a,v]),w,y,vq],[zw6,d,c,c,b,b,b,d,h,dV6,k,c],[⟨.ret,[],⟨[(.tup [])],[zw6,c,c,c],[]⟩⟩],by exact u31 sB⟩
theorem bh9 :Rt bg7:=rq (ee8) (.cons ai5 (.cons fg (.cons cr (.nil _)))) λ_=>by kernel_rfl
def wQ :FSum:=⟨172,[g,wZ],[bd3,b,b,d,d,h,yD,k,c],[ei5],by exact u28 pc⟩
theorem am9 :Rt wQ:=rq (eg5) (.cons sQ (.cons uW (.cons zU (.cons fg (.cons vE (.cons bh9 (.nil _))))))) λ_=>by kernel_rfl
def i7 :FSum:=⟨117,[g,a],[l],[dM8],by exact u4 bc⟩
theorem dp :Rt i7:=rq (.no) (.cons ag9 (.nil _)) λ_=>by kernel_rfl
def bh0 :FSum:=⟨115,[g,a],[bd3,b,b,d,d,h,yD,l,c],[dU8],by exact u28 nr⟩
theorem ag6 :Rt bh0:=bj (ins:=[⟨170,bl aB 170 ⟨[i8,i7],[⟨171,bl aB 171 ⟨[tL,wQ],[]⟩ .no⟩]⟩ .no⟩]) (at':= .no) (.cons sQ (.nil _)) (aa.cons (am (.cons cu (.cons dp (.nil _))) (aa.cons (am (.cons cr (.cons am9 (.nil _))) (aa.nil _)) (aa.nil _))) (aa.nil _)) λ_=>by kernel_rfl
def aV2 :FSum:=⟨75,[g,(.agg [a,a])],[bd3,b,b,d,d,h,yD,l,c],[ei1],by exact u29 rb⟩
theorem aX1 :Rt aV2:=bj (ins:=[⟨116,bl aB 116 ⟨[tL,aF7],[⟨173,bl aB 173 ⟨[am4,tL],[⟨232,bl aB 232 ⟨[aV9,ax6],[⟨255,bl aB 255 ⟨[],[⟨266,bl aB 266 ⟨[xX],[]⟩ .no⟩]⟩ (.n .no (.n .no (.n .no (.n (.lp [10,12,17] dU4 [dV2] .no) .no))))⟩]⟩ .no⟩]⟩ (.n .no (.n .no (.n .no (.n .no (.n .no (.n .no (.n (.n .no (.n (.sz 1019 (.lp [18] cj7 [cj8] .no) (.lp [16] cj7 [cj8] .no)) .no)) .no)))))))⟩]⟩ .no⟩]) (at':=zw2) (.cons cu (.cons uX (.cons aX2 (.cons ik (.cons fg (.cons ag6 (.cons lg (.cons dp (.nil _))))))))) (aa.cons (am (.cons cr (.cons vE (.nil _))) (aa.cons (am (.cons fg (.cons cr (.nil _))) (aa.cons (am (.cons ab8 (.cons ug (.nil _))) (aa.cons (am (.nil _) (aa.cons (am (.cons yq (.nil _)) (aa.nil _)) (aa.nil _))) (aa.nil _))) (aa.nil _))) (aa.nil _))) (aa.nil _)) λ_=>by kernel_rfl
def bL7 :FSum:=⟨119,[a],[],[o],ak9⟩
theorem bN3 :Rt bL7:=rq (.no) (.nil _) λ_=>by kernel_rfl
def bL6 :FSum:=⟨118,[a,g],[av3],[o],by exact u2 sF⟩
theorem aX7 :Rt bL6:=rq (.no) (.nil _) λ_=>by kernel_rfl
def ae2 :FSum:=⟨175,[(.leaf zh3),(.fn 118 [] [g])],[av3],[q],by exact u2 nh⟩
theorem ae5 :Rt ae2:=rq (dJ4) (.cons aX7 (.nil _)) λ_=>by kernel_rfl
def yG :FSum:=⟨120,[(.leaf zh3),(.fn 118 [] [g])],[av3],[o],by exact u2 gp⟩
theorem yI :Rt yG:=rq (.no) (.cons ae5 (.nil _)) λ_=>by kernel_rfl
def aH6 :FSum:=⟨121,[.leaf zh3],[],ao3 zh0,jy⟩
theorem yr :Rt aH6:=aZ1 (es:=1) (bytes:=8) (z:=[(.int .i64 0)]) (s:=zh0) (by kernel_rfl) (λ_=>by kernel_rfl) (λ_=>by kernel_rfl) (by kernel_rfl)
def ck6 :FSum:=⟨76,[a,(.agg [a,a,(.leaf zh3)])],[],[eh6,⟨.ret,[],⟨[bw5],[],[(.cells 1 Zb [a,a,a,p,v]),m]⟩⟩],by exact u4 oi⟩
theorem yo :Rt ck6:=rq (.no) (.cons bN3 (.cons aX7 (.cons yI (.cons yr (.nil _))))) λ_=>by kernel_rfl
def bo9 :FSum:=⟨176,[a],[],[o],xE⟩
theorem bq0 :Rt bo9:=rq (.no) (.nil _) λ_=>by kernel_rfl
def bL1 :FSum:=⟨122,[(.agg [a,a])],[],[o],by exact u2 xD⟩
theorem bN0 :Rt bL1:=rq ((.n .no (.n (.n (.jn [] [] [⟨.normal,[3],⟨[j],[],[]⟩⟩] .no .no) .no) .no))) (.cons bq0 (.nil _)) λ_=>by kernel_rfl
def aB0 :FSum:=⟨123,[g],[dK3,h],[⟨.ret,[],⟨[(.agg [.nilf,(.fn 177 [g] []),(.fn 178 [g] []),(.fn 179 [g] []),(.fn 180 [g] []),(.fn 181 [g] []),(.fn 182 [g] []),(.fn 183 [g] [])])],[],[]⟩⟩],by exact u5 sG⟩
theorem aB8 :Rt aB0:=rq (.no) (.nil _) λ_=>by kernel_rfl
def as0 :FSum:=⟨177,[g,a],[cv5,h],[cj3],by exact u6 qo⟩
theorem as5 :Rt as0:=rq (.no) (.nil _) λ_=>by kernel_rfl
def aB1 :FSum:=⟨178,[g,a],[dK3,m],[dM7],by exact u6 sH⟩
theorem aB9 :Rt aB1:=rq (.no) (.nil _) λ_=>by kernel_rfl
def as1 :FSum:=⟨179,[g,a],[cv5,h],[cj3],by exact u6 qr⟩
theorem as6 :Rt as1:=rq (.no) (.nil _) λ_=>by kernel_rfl
def aH3 :FSum:=⟨180,[g,a],[dK3,m],[dM7],by exact u6 tt⟩
theorem aJ3 :Rt aH3:=rq (.no) (.nil _) λ_=>by kernel_rfl
def aA9 :FSum:=⟨233,[g,a],[cv5,h],[cj3],by exact u6 jg⟩
theorem xl :Rt aA9:=rq (.no) (.nil _) λ_=>by kernel_rfl
def aH4 :FSum:=⟨181,[g,a],[cv5,h],[cj3],by exact u6 tu⟩
theorem aJ4 :Rt aH4:=rq (.no) (.cons xl (.nil _)) λ_=>by kernel_rfl
def aH2 :FSum:=⟨182,[g,a],[cv5,h],[cj3],by exact u6 tq⟩
theorem aJ2 :Rt aH2:=rq (.no) (.cons xl (.nil _)) λ_=>by kernel_rfl
def as2 :FSum:=⟨183,[g,a],[cv5,h],[cj3],by exact u6 qs⟩
theorem as7 :Rt as2:=rq (.no) (.nil _) λ_=>by kernel_rfl
def aW2 :FSum:=⟨77,[g,(.agg [a,a])],[cv5,m],[⟨.ret,[],⟨[a],[cv5,m],[]⟩⟩],by exact u7 mg⟩
theorem ab9 :Rt aW2:=rq ((.n .no (.jn [] [] [⟨.ret,[4],⟨[(.cint .i64 2)],[],[]⟩⟩,dy7] (.n (.n .no (.n .no eh5)) .no) .no))) (.cons bN0 (.cons aB8 (.cons as5 (.cons aB9 (.cons as6 (.cons aJ3 (.cons aJ4 (.cons aJ2 (.cons as7 (.nil _)))))))))) λ_=>by kernel_rfl
def aV1 :FSum:=⟨78,[g],[bd1,b,b,d,d,h,yD,k,b],[zw9],by exact u27 aa1⟩
theorem aX0 :Rt aV1:=rq (.no) (.nil _) λ_=>by kernel_rfl
def bF9 :FSum:=⟨234,[aq4,wZ],[],[⟨.ret,[],⟨[(.tup [(.full 0),v,a])],[],[(.arr Zb cv4),c]⟩⟩],by exact u3 ad7⟩
theorem bH1 :Rt bF9:=rq (.no) (.cons ab8 (.nil _)) λ_=>by kernel_rfl
def bF8 :FSum:=⟨236,[a,cd8],[],[⟨.ret,[],⟨[(.tup [])],[],[]⟩⟩],by exact u6 ad6⟩
theorem bH0 :Rt bF8:=rq (.no) (.nil _) λ_=>by kernel_rfl
def bL3 :FSum:=⟨235,[(.full 0),v,a,(.fn 236 [] [])],[(.arr Za cv4),c],[dz2],by exact u3 xN⟩
theorem bN2 :Rt bL3:=rq ((.n .no (.n .no (.n (.lp [1,2] ⟨.normal,[9,11,10],⟨[a,a,a],[c,dh3],[]⟩⟩ [⟨.ret,[],⟨[],[c,dh3],[]⟩⟩] .no) .no)))) (.cons aX8 (.cons bH0 (.nil _))) λ_=>by kernel_rfl
def bY6 :FSum:=⟨184,[aq4,wZ],[],[⟨.ret,[],⟨[(.tup [(.full 0),a])],[],[c]⟩⟩],by exact u3 uf⟩
theorem bj8 :Rt bY6:=rq (.no) (.cons bH1 (.cons bN2 (.nil _))) λ_=>by kernel_rfl
def aE9 :FSum:=⟨124,[g,a],[bd3,b,b,d,d,h,yD,k,c],[ei5],by exact u28 xH⟩
theorem aI0 :Rt aE9:=rq ((.n .no (.n (.lp [0,8] ⟨.normal,[8],⟨[a],[bd3,c],[]⟩⟩ [⟨(.exit 0),[],⟨[],[bd3,c],[]⟩⟩] ef0) .no))) (.cons cr (.cons uW (.cons bj8 (.cons fg (.nil _))))) λ_=>by kernel_rfl
def aH1 :FSum:=⟨79,[g],[dK3,h],[⟨.ret,[],⟨[(.agg [a,a,w])],[],[m]⟩⟩],by exact u5 be⟩
theorem yp :Rt aH1:=rq (.no) (.cons yr (.nil _)) λ_=>by kernel_rfl
def bh5 :FSum:=⟨185,[.nilp,a,a,wZ],[],[ej5],by exact u3 af9⟩
theorem bi7 :Rt bh5:=bj (ins:=[⟨237,bl aB 237 ⟨[],[]⟩ .no⟩]) (at':= .no) (.nil _) (aa.cons (am (.nil _) (aa.nil _)) (aa.nil _)) λ_=>by kernel_rfl
def aV4 :FSum:=⟨125,[g,a],[bd1,b,b,d,d,h,yD,l,b],[dV5],by exact u28 aa2⟩
theorem aX3 :Rt aV4:=rq (.no) (.cons cu (.cons cr (.cons bi7 (.nil _)))) λ_=>by kernel_rfl
def aR5 :FSum:=⟨186,[.nilp,a],[],[⟨.ret,[],⟨[(.tup [p,NS,(.cint .i64 1)])],[],[]⟩⟩],yQ⟩
theorem aT7 :Rt aR5:=bj (ins:=[⟨237,bl aB 237 ⟨[],[]⟩ .no⟩]) (at':= .no) (.nil _) (aa.cons (am (.nil _) (aa.nil _)) (aa.nil _)) λ_=>by kernel_rfl
def aF3 :FSum:=⟨126,[g,a],[bd1,b,b,d,d,h,yD,k,c],[dz2],by exact u28 xK⟩
theorem aI3 :Rt aF3:=rq (.no) (.cons aT7 (.cons fg (.nil _))) λ_=>by kernel_rfl
def bl2 :FSum:=⟨187,[.nilp,a],[],[ej5],al6⟩
theorem bm1 :Rt bl2:=bj (ins:=[⟨237,bl aB 237 ⟨[],[]⟩ .no⟩]) (at':= .no) (.nil _) (aa.cons (am (.nil _) (aa.nil _)) (aa.nil _)) λ_=>by kernel_rfl
def bg9 :FSum:=⟨127,[g,a],[bd1,b,b,d,d,h,yD,l,b],[dV5],by exact u28 af5⟩
theorem bi1 :Rt bg9:=rq (.no) (.cons bm1 (.cons dp (.nil _))) λ_=>by kernel_rfl
def aP8 :FSum:=⟨173,[g,(.agg [a,v]),w,y,vq],[zw7,d,c,c,b,b,b,d,h,dV6,k,c],[⟨.ret,[],⟨[(.tup [])],[zw7,c,c,c],[]⟩⟩],by exact u31 yM⟩
theorem aS3 :Rt aP8:=rq (ee8) (.cons ai5 (.cons fg (.cons cr (.nil _)))) λ_=>by kernel_rfl
def vY :FSum:=⟨116,[g,v,w],[bX6,c,b,b,b,d,d,h,yE,k,c],[⟨.ret,[],⟨[(.tup [])],[bX6,c,c],[]⟩⟩],by exact u29 vV⟩
theorem ag7 :Rt vY:=rq (.no) (.cons cr (.cons vE (.cons aS3 (.nil _)))) λ_=>by kernel_rfl
def bg8 :FSum:=⟨128,[g,a],[bd3,b,b,d,d,h,yD,l,c],[dU8],by exact u28 af4⟩
theorem bi0 :Rt bg8:=bj (ins:=[⟨170,bl aB 170 ⟨[i8,i7],[⟨188,bl aB 188 ⟨[uV,wQ,vY],[]⟩ .no⟩]⟩ .no⟩]) (at':= .no) (.cons sQ (.nil _)) (aa.cons (am (.cons cu (.cons dp (.nil _))) (aa.cons (am (.cons uX (.cons am9 (.cons ag7 (.nil _)))) (aa.nil _)) (aa.nil _))) (aa.nil _)) λ_=>by kernel_rfl
def aF4 :FSum:=⟨129,[g,a],[bd3,b,b,d,d,h,yD,l,c],[dU8],by exact u28 xL⟩
theorem aI4 :Rt aF4:=bj (ins:=[⟨170,bl aB 170 ⟨[i8,i7],[⟨189,bl aB 189 ⟨[uV,vY],[]⟩ .no⟩]⟩ .no⟩]) (at':= .no) (.cons sQ (.nil _)) (aa.cons (am (.cons cu (.cons dp (.nil _))) (aa.cons (am (.cons uX (.cons ag7 (.nil _))) (aa.nil _)) (aa.nil _))) (aa.nil _)) λ_=>by kernel_rfl
def bp1 :FSum:=⟨39,[g,(.agg [a,a])],[bd3,b,b,d,d,h,yD,l,c],[ei1],by exact u29 uA⟩
theorem bq1 :Rt bp1:=rq (.no) (.cons xh (.cons aX1 (.cons ag5 (.cons yo (.cons ab9 (.cons aX0 (.cons aI0 (.cons yp (.cons aX3 (.cons aI3 (.cons bi1 (.cons ag6 (.cons bi0 (.cons aI4 (.nil _))))))))))))))) λ_=>by kernel_rfl
def aV8 :FSum:=⟨16,[g],[bC2,bw6,b,b,d,d,h,x,l,c],[⟨.ret,[],⟨[(.tup [(.agg [a,p]),j,a])],[bw6,l,c],[]⟩⟩],by exact u30 ei⟩
theorem vb :Rt aV8:=rq (.no) (.cons at8 (.cons bq1 (.nil _))) λ_=>by kernel_rfl
def bh2 :FSum:=⟨24,[g],[bC2,bw6,b,b,d,d,h,x,l,c],[⟨.ret,[],⟨[(.tup [a,a])],[bw6,l,c],[]⟩⟩],by exact u30 af7⟩
theorem bi4 :Rt bh2:=rq ((.n .no (.n .no (.n (.lp [1,8,9] ⟨.normal,[4],⟨[a],[bw6,l,c],[]⟩⟩ [⟨.ret,[2,3],⟨[a,a],[bw6,l,c],[]⟩⟩] .no) .no)))) (.cons vb (.nil _)) λ_=>by kernel_rfl
def aP3 :FSum:=⟨28,[g],[bd1,b,b,d,d,h,yD,k,b],[⟨.ret,[],⟨[(.tup [(.agg [i,(.full 9),(.full 10)]),a])],[],[c,c]⟩⟩],by exact u27 py⟩
theorem aR9 :Rt aP3:=rq (.no) (.cons cr (.nil _)) λ_=>by kernel_rfl
def aG3 :FSum:=⟨10,[g],[bC2,bc8,b,b,d,d,h,x,k,b],[eg1],by exact u30 ie⟩
theorem yn :Rt aG3:=bj (ins:=[⟨27,bl aB 27 ⟨[],[]⟩ .no⟩]) (at':= .no) (.cons aR9 (.nil _)) (aa.cons (am (.nil _) (aa.nil _)) (aa.nil _)) λ_=>by kernel_rfl
def aR3 :FSum:=⟨31,[g],[bC2,bc8,b,b,d,d,h,x,k,b],[o],by exact u30 kv⟩
theorem zc :Rt aR3:=rq (.no) (.cons at8 (.nil _)) λ_=>by kernel_rfl
def aV5 :FSum:=⟨13,[g],[bC2,bc8,b,b,d,d,h,x,k,b],[o],by exact u30 jc⟩
theorem uY :Rt aV5:=rq (.no) (.cons zc (.cons uZ (.nil _))) λ_=>by kernel_rfl
def cl6 :FSum:=⟨11,[(.agg [i,wZ,wZ]),(.agg [i,wZ,wZ])],[],[o],by exact u6 i4⟩
theorem bq8 :Rt cl6:=rq ((.n .no (.n .no (.n ef7 (.n (.n .no (.n (.lp [] cY8 [⟨.ret,[4],⟨[j],[],[]⟩⟩,⟨(.exit 2),[],⟨[],[],[]⟩⟩] .no) .no)) .no))))) (.nil _) λ_=>by kernel_rfl
def aU9 :FSum:=⟨112,[g],[bd0,b,b,d,d,h,x,yF,k,b],[q],by exact u30 lz⟩
theorem ab5 :Rt aU9:=rq (.no) (.nil _) λ_=>by kernel_rfl
def aQ5 :FSum:=⟨74,[g],[bC3,vR,b,b,d,d,h,yE,yJ,k,b],[q],by exact u33 kt⟩
theorem yY :Rt aQ5:=bj (ins:=[⟨27,bl aB 27 ⟨[],[]⟩ .no⟩]) (at':= .no) (.cons ab5 (.nil _)) (aa.cons (am (.nil _) (aa.nil _)) (aa.nil _)) λ_=>by kernel_rfl
def tN :FSum:=⟨163,[(.agg [a,a,a]),a],[],[q],by exact u4 cq⟩
theorem pm :Rt tN:=rq (.no) (.cons tX (.nil _)) λ_=>by kernel_rfl
def uF :FSum:=⟨162,[g,a],[cj4,b],[⟨.ret,[],⟨[(.tup [i,a])],[],[]⟩⟩],by exact u3 gc⟩
theorem rr :Rt uF:=bj (ins:=[⟨152,bl aB 152 ⟨[],[⟨153,bl aB 153 ⟨[ni],[]⟩ .no⟩]⟩ .no⟩]) (at':= .no) (.nil _) (aa.cons (am (.nil _) (aa.cons (am (.cons cj (.nil _)) (aa.nil _)) (aa.nil _))) (aa.nil _)) λ_=>by kernel_rfl
def aW5 :FSum:=⟨109,[g],[dz0,cI7,b],[⟨.ret,[],⟨[y],[],[m]⟩⟩],by exact u5 jh⟩
theorem vc :Rt aW5:=rq ((.n .no (.n .no (.n .no (.n (.n .no (.n (.lp [] ⟨.normal,[14,3],⟨[a,y],[],[m]⟩⟩ [⟨(.exit 0),[3],⟨[y],[],[m]⟩⟩] .no) .no)) .no))))) (.cons pm (.cons rr (.nil _))) λ_=>by kernel_rfl
def aP4 :FSum:=⟨67,[g],[bd0,b,b,d,d,h,x,yF,k,b],[⟨.ret,[],⟨[(.agg [a,a,(.full 10)])],[],[m]⟩⟩],by exact u30 cv⟩
theorem uu :Rt aP4:=rq (.no) (.cons vc (.nil _)) λ_=>by kernel_rfl
def aG4 :FSum:=⟨32,[g],[bC3,vR,b,b,d,d,h,yE,yJ,k,b],[eh2],by exact u33 fd⟩
theorem tS :Rt aG4:=bj (ins:=[⟨27,bl aB 27 ⟨[],[]⟩ .no⟩]) (at':= .no) (.cons uu (.nil _)) (aa.cons (am (.nil _) (aa.nil _)) (aa.nil _)) λ_=>by kernel_rfl
def bj2 :FSum:=⟨155,[a,(.agg [a,a,(.leaf zh3)])],[],[o],by exact u4 aw1⟩
theorem cb5 :Rt bj2:=rq (.no) (.cons yo (.nil _)) λ_=>by kernel_rfl
def at6 :FSum:=⟨156,[],[],[eh3],λ_=>mz⟩
theorem at9 :Rt at6:=rq (.no) (.nil _) λ_=>by kernel_rfl
def aW3 :FSum:=⟨157,[a,(.agg [a,a,(.leaf zh3)])],[],[⟨.ret,[],⟨[dx8],[],[]⟩⟩],by exact u4 xV⟩
theorem bO2 :Rt aW3:=rq ((.n .no (.n .no (.jn [0,1,2] [] [⟨.normal,[],⟨[],[dV1,dU5,(.cells 1 Zb [a,a,(.leaf zh3),a,(.cint .i64 (-1)),p,p,(.cint .i64 (-1))])],[]⟩⟩] .no (.n (.n .no (.n (.lp [0,1,2] ⟨.normal,[20],⟨[a],[dV1,dU5,eg4],[]⟩⟩ [⟨(.exit 0),[],⟨[],[dV1,dU5,eg4],[]⟩⟩] .no) .no)) .no))))) (.nil _) λ_=>by kernel_rfl
def bj3 :FSum:=⟨206,[a,a],[],[⟨.ret,[],⟨[(.fn 251 [] [g,(.ptr 1 0)])],[],[cj6,cj6]⟩⟩],by exact u2 sf⟩
theorem cb6 :Rt bj3:=rq (.no) (.nil _) λ_=>by kernel_rfl
def aR4 :FSum:=⟨205,[dx8],[],[o],by exact u8 kw⟩
theorem uw :Rt aR4:=rq (.no) (.nil _) λ_=>by kernel_rfl
def xY :FSum:=⟨204,[g],[cI6],[o],by exact u8 tw⟩
theorem aJ9 :Rt xY:=rq (.no) (.cons uw (.nil _)) λ_=>by kernel_rfl
def aN6 :FSum:=⟨251,[g,(.ptr 1 0)],[av3,av3],[cR8],by exact u2 ng⟩
theorem bH4 :Rt aN6:=rq (.no) (.nil _) λ_=>by kernel_rfl
def xZ :FSum:=⟨207,[g],[cI6],[o],by exact u8 tx⟩
theorem aK0 :Rt xZ:=rq (.no) (.nil _) λ_=>by kernel_rfl
def ya :FSum:=⟨208,[g,(.ptr 1 0)],[cI6,av3],[o],by exact u9 tz⟩
theorem aK1 :Rt ya:=rq (.no) (.cons uw (.nil _)) λ_=>by kernel_rfl
def yd :FSum:=⟨209,[g],[cI6],[o],by exact u8 tA⟩
theorem aK2 :Rt yd:=rq (.no) (.nil _) λ_=>by kernel_rfl
def ag2 :FSum:=⟨210,[dx8],[],[dU6],by exact u8 vW⟩
theorem bi6 :Rt ag2:=rq (.no) (.cons uw (.nil _)) λ_=>by kernel_rfl
def ye :FSum:=⟨211,[g],[cI6],[o],by exact u8 tB⟩
theorem aK3 :Rt ye:=rq (.no) (.nil _) λ_=>by kernel_rfl
def aa7 :FSum:=⟨212,[dx8],[],[dU6],by exact u8 uN⟩
theorem aY1 :Rt aa7:=rq (.no) (.cons at9 (.nil _)) λ_=>by kernel_rfl
def yf :FSum:=⟨213,[g],[cI6],[o],by exact u8 tC⟩
theorem aK4 :Rt yf:=rq (.no) (.nil _) λ_=>by kernel_rfl
def yg :FSum:=⟨214,[g],[cI6],[o],by exact u8 tD⟩
theorem aK5 :Rt yg:=rq (.no) (.nil _) λ_=>by kernel_rfl
def yh :FSum:=⟨215,[g],[cI6],[o],by exact u8 tE⟩
theorem aK6 :Rt yh:=rq (.no) (.nil _) λ_=>by kernel_rfl
def aB2 :FSum:=⟨216,[],[],[o],λ_=>zi⟩
theorem bx4 :Rt aB2:=rq (.no) (.nil _) λ_=>by kernel_rfl
def cm0 :FSum:=⟨267,[a],[],[o],aE3⟩
theorem cn9 :Rt cm0:=rq (.no) (.nil _) λ_=>by kernel_rfl
def bp5 :FSum:=⟨273,[i,i],[],[dV0],by exact u2 uD⟩
theorem bq4 :Rt bp5:=rq (.no) (.nil _) λ_=>by kernel_rfl
def bp4 :FSum:=⟨276,[i],[],[q],at0⟩
theorem bq3 :Rt bp4:=rq ((.n .no (.jn [] [] [ej2] .no (.jn [] [] [ej2] .no .no)))) (.nil _) λ_=>by kernel_rfl
def am5 :FSum:=⟨275,[i],[],[q],uK⟩
theorem an1 :Rt am5:=rq (.no) (.cons bq3 (.nil _)) λ_=>by kernel_rfl
def bp3 :FSum:=⟨274,[i,i,i],[],[dV0],by exact u3 uC⟩
theorem bq2 :Rt bp3:=rq ((.n .no (.n .no (.n .no (.n .no (.n .no (.n .no (.n .no (.n .no (.n .no (.n .no (.n .no (.n .no (.n .no (.n .no (.n (.n (.lp [] ⟨.normal,[15,16],⟨[i,i],[],[]⟩⟩ [⟨(.exit 0),[15],⟨[i],[],[]⟩⟩] .no) .no) (.n .no (.n .no (.n .no (.n (.n (.lp [] ⟨.normal,[18,16],⟨[i,i],[],[]⟩⟩ [⟨(.exit 2),[18],⟨[i],[],[]⟩⟩] .no) .no) .no)))))))))))))))))))) (.cons an1 (.nil _)) λ_=>by kernel_rfl
def bL2 :FSum:=⟨271,[a,a,a],[],[q],by exact u3 xG⟩
theorem bN1 :Rt bL2:=rq (.no) (.cons bq4 (.cons bq2 (.nil _))) λ_=>by kernel_rfl
def bF6 :FSum:=⟨265,[a,a],[],[q],by exact u2 qv⟩
theorem aN7 :Rt bF6:=rq ((.n .no (.n .no ef6))) (.cons bN1 (.nil _)) λ_=>by kernel_rfl
def bM6 :FSum:=⟨270,[a,a],[],[q],by exact u2 xU⟩
theorem bO1 :Rt bM6:=rq (.no) (.cons aN7 (.nil _)) λ_=>by kernel_rfl
def bZ7 :FSum:=⟨269,[a,g,(.ptr 1 0)],[av3,av3],[o],by exact u3 aw0⟩
theorem cb4 :Rt bZ7:=rq (.no) (.cons bO1 (.nil _)) λ_=>by kernel_rfl
def cl9 :FSum:=⟨268,[a,(.fn 269 [] [g,(.ptr 1 0)])],[av3,av3],[q],by exact u3 aE2⟩
theorem cn8 :Rt cl9:=rq ((.n .no (.n .no (.n (.n (.lp [] ⟨.normal,[5,6],⟨[a,a],[],[]⟩⟩ [dN3] .no) .no) .no)))) (.cons cb4 (.nil _)) λ_=>by kernel_rfl
def cw5 :FSum:=⟨263,[a,a],[],[cv6],by exact u2 at4⟩
theorem cx7 :Rt cw5:=rq (.no) (.cons cn9 (.cons cn8 (.nil _))) λ_=>by kernel_rfl
def bG3 :FSum:=⟨264,[(.leaf zh3)],[],[q],wE⟩
theorem bH3 :Rt bG3:=rq ((.n .no (.n .no (.n ef9 .no)))) (.nil _) λ_=>by kernel_rfl
def cl8 :FSum:=⟨252,[a,a],[],[cv6],by exact u2 ah9⟩
theorem cn7 :Rt cl8:=rq (.no) (.cons cx7 (.cons aN7 (.cons bH3 (.nil _)))) λ_=>by kernel_rfl
def aa8 :FSum:=⟨217,[dx8],[],[⟨.ret,[],⟨[(.tup [(.agg [(.cint .i64 1),a]),j])],[],[]⟩⟩],by exact u8 uO⟩
theorem aY2 :Rt aa8:=rq (.no) (.cons cn7 (.nil _)) λ_=>by kernel_rfl
def bw7 :FSum:=⟨64,[g],[bC3,vR,b,b,d,d,h,yE,yJ,k,b],[cR8],by exact u33 sD⟩
theorem aB7 :Rt bw7:=bj (ins:=[⟨107,bl aB 107 ⟨[bj2,at6,aW3,xY,aN6,xZ,ya,yd,ag2,ye,aa7,yf,yg,yh,aB2,aa8],[⟨158,bl aB 158 ⟨[bj3],[]⟩ .no⟩]⟩ (.n .no (.n .no (.n (.n .no (.n (.n .no (.n .no (.n .no (.n .no (.n .no (.n .no (.n .no (.n .no dy9)))))))) .no)) .no)))⟩]) (at':= .no) (.cons yY (.cons tS (.nil _))) (aa.cons (am (.cons cb5 (.cons at9 (.cons bO2 (.cons aJ9 (.cons bH4 (.cons aK0 (.cons aK1 (.cons aK2 (.cons bi6 (.cons aK3 (.cons aY1 (.cons aK4 (.cons aK5 (.cons aK6 (.cons bx4 (.cons aY2 (.nil _))))))))))))))))) (aa.cons (am (.cons cb6 (.nil _)) (aa.nil _)) (aa.nil _))) (aa.nil _)) λ_=>by kernel_rfl
def ar4 :FSum:=⟨61,[g],[bd0,b,b,d,d,h,x,yF,k,b],[o],by exact u30 qk⟩
theorem as3 :Rt ar4:=rq (.no) (.nil _) λ_=>by kernel_rfl
def rp :FSum:=⟨55,[g,a],[bd0,b,b,d,d,h,x,yF,k,b],[dK4],by exact u31 ba⟩
theorem ce :Rt rp:=rq (.no) (.cons lg (.nil _)) λ_=>by kernel_rfl
def aF0 :FSum:=⟨168,[g,aq4,wZ,wZ],[bd0,b,b,d,d,h,x,yF,k,b],[dK4],by exact u34 gz⟩
theorem tO :Rt aF0:=rq (.no) (.cons ce (.cons tc (.nil _))) λ_=>by kernel_rfl
def tM :FSum:=⟨113,[g],[bd2,b,b,d,d,h,x,yF,k,c],[⟨.ret,[],⟨[(.tup [(.full 10),(.full 11)])],[bd2,c],[c,c]⟩⟩],by exact u30 ia⟩
theorem tP :Rt tM:=rq (ef8) (.cons sQ (.cons ce (.cons tO (.cons zU (.cons dh (.nil _)))))) λ_=>by kernel_rfl
def aF5 :FSum:=⟨114,[g,a],[bd0,b,b,d,d,h,x,yF,k,b],[q],by exact u31 tj⟩
theorem aI5 :Rt aF5:=rq (.no) (.nil _) λ_=>by kernel_rfl
def aP9 :FSum:=⟨173,[g,(.agg [a,v]),w,y,vq],[zw3,d,c,c,b,b,b,d,h,ek1,ej4,k,c],[⟨.ret,[],⟨[(.tup [])],[zw3,c,c,c],[]⟩⟩],by exact u34 pz⟩
theorem aS4 :Rt aP9:=rq (ee9) (.cons ai5 (.cons dh (.cons ce (.nil _)))) λ_=>by kernel_rfl
def uT :FSum:=⟨172,[g,wZ],[bd2,b,b,d,d,h,x,yF,k,c],[ei4],by exact u31 mb⟩
theorem ab6 :Rt uT:=rq (eg5) (.cons sQ (.cons tO (.cons zU (.cons dh (.cons vE (.cons aS4 (.nil _))))))) λ_=>by kernel_rfl
def aQ3 :FSum:=⟨115,[g,a],[bd2,b,b,d,d,h,x,yF,l,c],[dU7],by exact u31 kq⟩
theorem yW :Rt aQ3:=bj (ins:=[⟨170,bl aB 170 ⟨[i8,i7],[⟨171,bl aB 171 ⟨[rp,uT],[]⟩ .no⟩]⟩ .no⟩]) (at':= .no) (.cons sQ (.nil _)) (aa.cons (am (.cons cu (.cons dp (.nil _))) (aa.cons (am (.cons ce (.cons ab6 (.nil _))) (aa.nil _)) (aa.nil _))) (aa.nil _)) λ_=>by kernel_rfl
def aF2 :FSum:=⟨75,[g,(.agg [a,a])],[bd2,b,b,d,d,h,x,yF,l,c],[ei0],by exact u32 xJ⟩
theorem aI2 :Rt aF2:=bj (ins:=[⟨116,bl aB 116 ⟨[rp,aF7],[⟨173,bl aB 173 ⟨[aa6,rp],[⟨232,bl aB 232 ⟨[aV9,ax6],[⟨255,bl aB 255 ⟨[],[⟨266,bl aB 266 ⟨[xX],[]⟩ .no⟩]⟩ (.n .no (.n .no (.n .no (.n (.lp [11,13,18] dU4 [dV2] .no) .no))))⟩]⟩ .no⟩]⟩ (.n .no (.n .no (.n .no (.n .no (.n .no (.n .no (.n (.n .no (.n (.sz 20 (.lp [19] cj7 [cj8] .no) (.lp [17] cj7 [cj8] .no)) .no)) .no)))))))⟩]⟩ .no⟩]) (at':=zw2) (.cons cu (.cons tP (.cons aI5 (.cons ik (.cons dh (.cons yW (.cons lg (.cons dp (.nil _))))))))) (aa.cons (am (.cons ce (.cons vE (.nil _))) (aa.cons (am (.cons dh (.cons ce (.nil _))) (aa.cons (am (.cons ab8 (.cons ug (.nil _))) (aa.cons (am (.nil _) (aa.cons (am (.cons yq (.nil _)) (aa.nil _)) (aa.nil _))) (aa.nil _))) (aa.nil _))) (aa.nil _))) (aa.nil _)) λ_=>by kernel_rfl
def aF1 :FSum:=⟨78,[g],[bd0,b,b,d,d,h,x,yF,k,b],[zw9],by exact u30 ti⟩
theorem aI1 :Rt aF1:=rq (.no) (.nil _) λ_=>by kernel_rfl
def aw8 :FSum:=⟨124,[g,a],[bd2,b,b,d,d,h,x,yF,k,c],[ei4],by exact u31 lj⟩
theorem ax8 :Rt aw8:=rq ((.n .no (.n (.lp [0,9] ⟨.normal,[8],⟨[a],[bd2,c],[]⟩⟩ [⟨(.exit 0),[],⟨[],[bd2,c],[]⟩⟩] ef0) .no))) (.cons ce (.cons tO (.cons bj8 (.cons dh (.nil _))))) λ_=>by kernel_rfl
def uG :FSum:=⟨256,[(.agg [a,a,a]),a],[],[o],by exact u4 na⟩
theorem yu :Rt uG:=rq (.no) (.nil _) λ_=>by kernel_rfl
def aR6 :FSum:=⟨185,[g,a,a,wZ],[dz0,cI7,c],[dy2],by exact u8 uq⟩
theorem aT8 :Rt aR6:=bj (ins:=[⟨237,bl aB 237 ⟨[uG,tN,uF],[⟨238,bl aB 238 ⟨[vX],[]⟩ (.n .no (.n (.n eh5 .no) .no))⟩]⟩ .no⟩]) (at':= .no) (.nil _) (aa.cons (am (.cons yu (.cons pm (.cons rr (.nil _)))) (aa.cons (am (.cons ik (.nil _)) (aa.nil _)) (aa.nil _))) (aa.nil _)) λ_=>by kernel_rfl
def aF6 :FSum:=⟨125,[g,a],[bd0,b,b,d,d,h,x,yF,l,c],[ei3],by exact u31 oe⟩
theorem aI6 :Rt aF6:=rq (.no) (.cons cu (.cons ce (.cons aT8 (.nil _)))) λ_=>by kernel_rfl
def aB3 :FSum:=⟨186,[g,a],[dz0,cI7,b],[⟨.ret,[],⟨[(.tup [a,y,a])],[],[c]⟩⟩],by exact u6 sN⟩
theorem aC0 :Rt aB3:=bj (ins:=[⟨237,bl aB 237 ⟨[uG,tN,uF],[⟨239,bl aB 239 ⟨[am2],[]⟩ .no⟩]⟩ .no⟩]) (at':= .no) (.nil _) (aa.cons (am (.cons yu (.cons pm (.cons rr (.nil _)))) (aa.cons (am (.cons lg (.nil _)) (aa.nil _)) (aa.nil _))) (aa.nil _)) λ_=>by kernel_rfl
def aw9 :FSum:=⟨126,[g,a],[bd0,b,b,d,d,h,x,yF,k,c],[dz2],by exact u31 ll⟩
theorem ax9 :Rt aw9:=rq (.no) (.cons aC0 (.cons dh (.nil _))) λ_=>by kernel_rfl
def aW4 :FSum:=⟨187,[g,a],[dz0,cI7,c],[dy2],by exact u6 uP⟩
theorem aY4 :Rt aW4:=bj (ins:=[⟨237,bl aB 237 ⟨[uG,tN,uF],[⟨240,bl aB 240 ⟨[am7,vX],[]⟩ .no⟩]⟩ .no⟩]) (at':= .no) (.nil _) (aa.cons (am (.cons yu (.cons pm (.cons rr (.nil _)))) (aa.cons (am (.cons tX (.cons ik (.nil _))) (aa.nil _)) (aa.nil _))) (aa.nil _)) λ_=>by kernel_rfl
def aQ2 :FSum:=⟨127,[g,a],[bd0,b,b,d,d,h,x,yF,l,c],[ei3],by exact u31 qc⟩
theorem aS7 :Rt aQ2:=rq (.no) (.cons aY4 (.cons dp (.nil _))) λ_=>by kernel_rfl
def aQ0 :FSum:=⟨173,[g,(.agg [a,v]),w,y,vq],[zw4,d,c,c,b,b,b,d,h,ek1,ej4,k,c],[⟨.ret,[],⟨[(.tup [])],[zw4,c,c,c],[]⟩⟩],by exact u34 qa⟩
theorem aS5 :Rt aQ0:=rq (ee9) (.cons ai5 (.cons dh (.cons ce (.nil _)))) λ_=>by kernel_rfl
def ut :FSum:=⟨116,[g,v,w],[aO8,c,b,b,b,d,d,h,dV6,(.cells 1 Za [a,a,a,bw4]),k,c],[⟨.ret,[],⟨[(.tup [])],[aO8,c,c],[]⟩⟩],by exact u32 kr⟩
theorem yX :Rt ut:=rq (.no) (.cons ce (.cons vE (.cons aS5 (.nil _)))) λ_=>by kernel_rfl
def aQ1 :FSum:=⟨128,[g,a],[bd2,b,b,d,d,h,x,yF,l,c],[dU7],by exact u31 qb⟩
theorem aS6 :Rt aQ1:=bj (ins:=[⟨170,bl aB 170 ⟨[i8,i7],[⟨188,bl aB 188 ⟨[tM,uT,ut],[]⟩ .no⟩]⟩ .no⟩]) (at':= .no) (.cons sQ (.nil _)) (aa.cons (am (.cons cu (.cons dp (.nil _))) (aa.cons (am (.cons tP (.cons ab6 (.cons yX (.nil _)))) (aa.nil _)) (aa.nil _))) (aa.nil _)) λ_=>by kernel_rfl
def ax0 :FSum:=⟨129,[g,a],[bd2,b,b,d,d,h,x,yF,l,c],[dU7],by exact u31 lm⟩
theorem ay0 :Rt ax0:=bj (ins:=[⟨170,bl aB 170 ⟨[i8,i7],[⟨189,bl aB 189 ⟨[tM,ut],[]⟩ .no⟩]⟩ .no⟩]) (at':= .no) (.cons sQ (.nil _)) (aa.cons (am (.cons cu (.cons dp (.nil _))) (aa.cons (am (.cons tP (.cons yX (.nil _))) (aa.nil _)) (aa.nil _))) (aa.nil _)) λ_=>by kernel_rfl
def bg2 :FSum:=⟨39,[g,(.agg [a,a])],[bd2,b,b,d,d,h,x,yF,l,c],[ei0],by exact u32 nq⟩
theorem ag4 :Rt bg2:=rq (.no) (.cons as3 (.cons aI2 (.cons uu (.cons yo (.cons ab9 (.cons aI1 (.cons ax8 (.cons yp (.cons aI6 (.cons ax9 (.cons aS7 (.cons yW (.cons aS6 (.cons ay0 (.nil _))))))))))))))) λ_=>by kernel_rfl
def aG7 :FSum:=⟨16,[g],[bC3,av2,b,b,d,d,h,yE,yJ,l,c],[eg3],by exact u33 df⟩
theorem tU :Rt aG7:=rq (.no) (.cons aB7 (.cons ag4 (.nil _))) λ_=>by kernel_rfl
def aQ7 :FSum:=⟨24,[g],[bC3,av2,b,b,d,d,h,yE,yJ,l,c],[eh1],by exact u33 yO⟩
theorem aT2 :Rt aQ7:=rq (ef1) (.cons tU (.nil _)) λ_=>by kernel_rfl
def aA0 :FSum:=⟨28,[g],[bd0,b,b,d,d,h,x,yF,k,b],[eg1],by exact u30 i9⟩
theorem xg :Rt aA0:=rq (.no) (.cons ce (.nil _)) λ_=>by kernel_rfl
def ax3 :FSum:=⟨10,[g],[bC3,vR,b,b,d,d,h,yE,yJ,k,b],[eg2],by exact u33 fj⟩
theorem wo :Rt ax3:=bj (ins:=[⟨27,bl aB 27 ⟨[],[]⟩ .no⟩]) (at':= .no) (.cons xg (.nil _)) (aa.cons (am (.nil _) (aa.nil _)) (aa.nil _)) λ_=>by kernel_rfl
def aA7 :FSum:=⟨31,[g],[bC3,vR,b,b,d,d,h,yE,yJ,k,b],[o],by exact u33 jd⟩
theorem xj :Rt aA7:=rq (.no) (.cons aB7 (.nil _)) λ_=>by kernel_rfl
def aF8 :FSum:=⟨13,[g],[bC3,vR,b,b,d,d,h,yE,yJ,k,b],[o],by exact u33 ib⟩
theorem tQ :Rt aF8:=rq (.no) (.cons xj (.cons tS (.nil _))) λ_=>by kernel_rfl
def aQ6 :FSum:=⟨74,[g],[bC4,vR,b,b,d,d,h,yE,yJ,k,b],[q],by exact u33 ku⟩
theorem yZ :Rt aQ6:=bj (ins:=[⟨27,bl aB 27 ⟨[],[]⟩ .no⟩]) (at':= .no) (.cons ab5 (.nil _)) (aa.cons (am (.nil _) (aa.nil _)) (aa.nil _)) λ_=>by kernel_rfl
def aG5 :FSum:=⟨32,[g],[bC4,vR,b,b,d,d,h,yE,yJ,k,b],[eh2],by exact u33 ff⟩
theorem tT :Rt aG5:=bj (ins:=[⟨27,bl aB 27 ⟨[],[]⟩ .no⟩]) (at':= .no) (.cons uu (.nil _)) (aa.cons (am (.nil _) (aa.nil _)) (aa.nil _)) λ_=>by kernel_rfl
def bx3 :FSum:=⟨159,[],[],[eh3],λ_=>jk⟩
theorem zn :Rt bx3:=rq (.no) (.nil _) λ_=>by kernel_rfl
def bG5 :FSum:=⟨218,[a,a],[],[cv6],by exact u2 ub⟩
theorem bH6 :Rt bG5:=rq ((.n .no (.n .no (.n .no (.n .no (.n (.n (.lp [] cY8 [⟨(.exit 0),[6],⟨[a],[],[]⟩⟩] .no) .no) .no)))))) (.nil _) λ_=>by kernel_rfl
def cm3 :FSum:=⟨219,[a,a],[],[cR8],by exact u2 kc⟩
theorem bq9 :Rt cm3:=rq (.no) (.nil _) λ_=>by kernel_rfl
def bw9 :FSum:=⟨221,[a,g],[av3],[o],by exact u2 vA⟩
theorem bx5 :Rt bw9:=rq (.no) (.nil _) λ_=>by kernel_rfl
def ca2 :FSum:=⟨222,[a,a],[],[o],by exact u2 sg⟩
theorem ay7 :Rt ca2:=rq (.no) (.nil _) λ_=>by kernel_rfl
def ca1 :FSum:=⟨220,[(.leaf zh3),(.fn 221 [] [g]),(.fn 222 [] [])],[av3],[q],by exact u2 zT⟩
theorem cc0 :Rt ca1:=rq (dJ5) (.cons bx5 (.cons ay7 (.nil _))) λ_=>by kernel_rfl
def bx0 :FSum:=⟨223,[a,g],[av3],[o],by exact u2 zj⟩
theorem bx6 :Rt bx0:=rq (.no) (.nil _) λ_=>by kernel_rfl
def bG6 :FSum:=⟨220,[(.leaf zh3),(.fn 223 [] [g]),(.fn 222 [] [])],[av3],[q],by exact u2 wG⟩
theorem bH7 :Rt bG6:=rq (dJ5) (.cons bx6 (.cons ay7 (.nil _))) λ_=>by kernel_rfl
def bx1 :FSum:=⟨224,[a],[],[o],zk⟩
theorem bx7 :Rt bx1:=rq (.no) (.nil _) λ_=>by kernel_rfl
def bG7 :FSum:=⟨220,[(.leaf zh3),(.fn 224 [] []),(.fn 222 [] [])],[],[q],wH⟩
theorem bH8 :Rt bG7:=rq (dJ5) (.cons bx7 (.cons ay7 (.nil _))) λ_=>by kernel_rfl
def bM8 :FSum:=⟨160,[a,j,(.agg [a,a,(.leaf zh3)])],[],[cR8],by exact u5 al7⟩
theorem bO5 :Rt bM8:=rq ((.n .no (.n .no (.n .no (.n .no (.n .no (.n .no (.n (.n (.jn [] [] [⟨.normal,[49],⟨[j],[],[]⟩⟩] .no .no) .no) .no)))))))) (.cons bH6 (.cons bq9 (.cons cc0 (.cons bH7 (.cons bH8 (.cons zn (.nil _))))))) λ_=>by kernel_rfl
def bM9 :FSum:=⟨225,[a],[],[o],am1⟩
theorem bO6 :Rt bM9:=rq (.no) (.nil _) λ_=>by kernel_rfl
def bx2 :FSum:=⟨226,[a,a],[],[o],by exact u2 zl⟩
theorem bx8 :Rt bx2:=rq (.no) (.nil _) λ_=>by kernel_rfl
def bG8 :FSum:=⟨220,[(.leaf zh3),(.fn 225 [] []),(.fn 226 [] [])],[],[q],wI⟩
theorem bH9 :Rt bG8:=rq (dJ5) (.cons bO6 (.cons bx8 (.nil _))) λ_=>by kernel_rfl
def ca0 :FSum:=⟨161,[(.agg [a,a,(.leaf zh3)])],[],[cR8],by exact u3 aw6⟩
theorem cb9 :Rt ca0:=rq ((.n .no (.n .no (.n .no (.n (.n (.jn [] [] [⟨.normal,[11],⟨[j],[],[]⟩⟩] .no (.n .no (.n .no (.n .no (.n .no (.n .no (.jn [] [] [⟨.normal,[42],⟨[j],[],[]⟩⟩] .no .no))))))) .no) .no))))) (.cons bH9 (.cons bq9 (.cons zn (.nil _)))) λ_=>by kernel_rfl
def bZ9 :FSum:=⟨108,[a,j,(.agg [a,a,(.leaf zh3)])],[],[cR8],by exact u5 aw5⟩
theorem cb8 :Rt bZ9:=rq ((.n .no (.n (.n .no (.sz 4 .no .no)) .no))) (.cons yo (.cons zn (.cons bO5 (.cons cb9 (.nil _))))) λ_=>by kernel_rfl
def bF7 :FSum:=⟨65,[g],[bC4,vR,b,b,d,d,h,yE,yJ,k,b],[cR8],by exact u33 tZ⟩
theorem aN8 :Rt bF7:=rq (.no) (.cons yZ (.cons tT (.cons cb8 (.nil _)))) λ_=>by kernel_rfl
def aG8 :FSum:=⟨16,[g],[bC4,av2,b,b,d,d,h,yE,yJ,l,c],[eg3],by exact u33 dg⟩
theorem tV :Rt aG8:=rq (.no) (.cons aN8 (.cons ag4 (.nil _))) λ_=>by kernel_rfl
def aQ8 :FSum:=⟨24,[g],[bC4,av2,b,b,d,d,h,yE,yJ,l,c],[eh1],by exact u33 yP⟩
theorem aT3 :Rt aQ8:=rq (ef1) (.cons tV (.nil _)) λ_=>by kernel_rfl
def ax4 :FSum:=⟨10,[g],[bC4,vR,b,b,d,d,h,yE,yJ,k,b],[eg2],by exact u33 fp⟩
theorem wq :Rt ax4:=bj (ins:=[⟨27,bl aB 27 ⟨[],[]⟩ .no⟩]) (at':= .no) (.cons xg (.nil _)) (aa.cons (am (.nil _) (aa.nil _)) (aa.nil _)) λ_=>by kernel_rfl
def aA8 :FSum:=⟨31,[g],[bC4,vR,b,b,d,d,h,yE,yJ,k,b],[o],by exact u33 je⟩
theorem xk :Rt aA8:=rq (.no) (.cons aN8 (.nil _)) λ_=>by kernel_rfl
def aF9 :FSum:=⟨13,[g],[bC4,vR,b,b,d,d,h,yE,yJ,k,b],[o],by exact u33 ic⟩
theorem tR :Rt aF9:=rq (.no) (.cons xk (.cons tT (.nil _))) λ_=>by kernel_rfl
def cx0 :FSum:=⟨6,[],[],[o],λ_=>w9⟩
theorem cy2 :Rt cx0:=rq ((.n .no (.n .no (.n .no (.n .no (.n .no (.sz 3900016 .no (.sz 3840016 .no (.sz 3967015 .no .no))))))))) (.cons bH2 (.cons aI9 (.cons bi4 (.cons yn (.cons uY (.cons bq8 (.cons aT2 (.cons wo (.cons tQ (.cons aT3 (.cons wq (.cons tR (.nil _))))))))))))) λ_=>by kernel_rfl
def cw8 :FSum:=⟨8,[zN,(.leaf (.int .u8))],[],[q],by exact u10 uR⟩
theorem cy0 :Rt cw8:=rq (.no) (.nil _) λ_=>by kernel_rfl
def aQ9 :FSum:=⟨17,[g],[bC2,bc8,b,b,d,d,h,x,k,b],[o],by exact u30 iu⟩
theorem uv :Rt aQ9:=rq (.no) (.cons zc (.nil _)) λ_=>by kernel_rfl
def bg4 :FSum:=⟨40,[g],[bd3,b,b,d,d,h,yD,k,b],[⟨.ret,[],⟨[a],[bd3],[]⟩⟩],by exact u27 af3⟩
theorem bh7 :Rt bg4:=rq (.no) (.nil _) λ_=>by kernel_rfl
def aV6 :FSum:=⟨18,[g,j],[dK0,bw6,b,b,d,d,h,x,k,b],[⟨.ret,[],⟨[a],[dK0,bw6],[]⟩⟩],by exact u31 uJ⟩
theorem ab7 :Rt aV6:=rq (.no) (.cons uv (.cons bh7 (.nil _))) λ_=>by kernel_rfl
def aA5 :FSum:=⟨17,[g],[bC3,vR,b,b,d,d,h,yE,yJ,k,b],[o],by exact u33 gk⟩
theorem sO :Rt aA5:=rq (.no) (.cons xj (.nil _)) λ_=>by kernel_rfl
def aP1 :FSum:=⟨40,[g],[bd2,b,b,d,d,h,x,yF,k,b],[⟨.ret,[],⟨[a],[bd2],[]⟩⟩],by exact u30 ko⟩
theorem yV :Rt aP1:=rq (.no) (.nil _) λ_=>by kernel_rfl
def aG0 :FSum:=⟨18,[g,j],[dJ9,av2,b,b,d,d,h,yE,yJ,k,b],[⟨.ret,[],⟨[a],[dJ9,av2],[]⟩⟩],by exact u34 tn⟩
theorem yl :Rt aG0:=rq (.no) (.cons sO (.cons yV (.nil _))) λ_=>by kernel_rfl
def aA6 :FSum:=⟨17,[g],[bC4,vR,b,b,d,d,h,yE,yJ,k,b],[o],by exact u33 gl⟩
theorem sP :Rt aA6:=rq (.no) (.cons xk (.nil _)) λ_=>by kernel_rfl
def aG1 :FSum:=⟨18,[g,j],[dK1,av2,b,b,d,d,h,yE,yJ,k,b],[⟨.ret,[],⟨[a],[dK1,av2],[]⟩⟩],by exact u34 fc⟩
theorem ym :Rt aG1:=rq (.no) (.cons sP (.cons yV (.nil _))) λ_=>by kernel_rfl
def cZ5 :FSum:=⟨9,[zN,a],[],[⟨.ret,[],⟨[(.tup [.nilp,NS,j])],[],[]⟩⟩,⟨.ret,[],⟨[(.tup [g,v,j])],[],[dx9,bc9,bX6,c,c,r,r,m,dz3,l,c]⟩⟩,⟨.ret,[],⟨[(.tup [g,v,j])],[],[dy0,bc9,aO8,c,c,r,r,m,ek0,ei8,l,c]⟩⟩,⟨.ret,[],⟨[(.tup [g,v,j])],[],[dy1,bc9,aO8,c,c,r,r,m,ek0,ei8,l,c]⟩⟩],by exact u10 w8⟩
theorem cZ7 :Rt cZ5:=rq ((.n .no (.n .no (.sz 1300012 zw1 (.sz 1280012 zw1 (.sz 1323011 zw1 zw1)))))) (.cons aI9 (.cons vb (.cons uv (.cons uY (.cons ab7 (.cons tU (.cons sO (.cons tQ (.cons yl (.cons tV (.cons sP (.cons tR (.cons ym (.nil _)))))))))))))) λ_=>by kernel_rfl
def bl0 :FSum:=⟨130,[g],[k],[q],by exact u3 pf⟩
theorem an2 :Rt bl0:=rq (.no) (.nil _) λ_=>by kernel_rfl
def bg3 :FSum:=⟨80,[g],[bd1,b,b,d,d,h,yD,k,b],[q],by exact u27 vS⟩
theorem bh6 :Rt bg3:=rq (.no) (.cons an2 (.nil _)) λ_=>by kernel_rfl
def bl1 :FSum:=⟨131,[g],[k],[q],by exact u3 pg⟩
theorem an3 :Rt bl1:=rq (.no) (.nil _) λ_=>by kernel_rfl
def bg5 :FSum:=⟨81,[g],[bd1,b,b,d,d,h,yD,k,b],[q],by exact u27 vT⟩
theorem bh8 :Rt bg5:=rq (.no) (.cons an3 (.nil _)) λ_=>by kernel_rfl
def aE8 :FSum:=⟨41,[g],[bd1,b,b,d,d,h,yD,k,b],[cI9],by exact u27 od⟩
theorem aH9 :Rt aE8:=rq ((.n .no (.n .no (.n .no (.n .no (.n (.n .no (.n (.lp [10] ef4 [ef5] .no) .no)) .no)))))) (.cons bh6 (.cons bh8 (.nil _))) λ_=>by kernel_rfl
def aA4 :FSum:=⟨20,[g],[bC2,bc8,b,b,d,d,h,x,k,b],[cI9],by exact u30 gj⟩
theorem xi :Rt aA4:=bj (ins:=[⟨27,bl aB 27 ⟨[],[]⟩ .no⟩]) (at':= .no) (.cons aH9 (.nil _)) (aa.cons (am (.nil _) (aa.nil _)) (aa.nil _)) λ_=>by kernel_rfl
def bY3 :FSum:=⟨33,[j],[],[cI8],oo⟩
theorem ay3 :Rt bY3:=rq (.no) (.nil _) λ_=>by kernel_rfl
def bg1 :FSum:=⟨110,[g],[cj4,b],[⟨.ret,[],⟨[w],[],[c]⟩⟩],by exact u2 np⟩
theorem ag3 :Rt bg1:=rq (.no) (.cons cj (.nil _)) λ_=>by kernel_rfl
def aU8 :FSum:=⟨69,[g],[bd1,b,b,d,d,h,yD,k,b],[dV4],by exact u27 qz⟩
theorem aW9 :Rt aU8:=rq (.no) (.cons ag3 (.nil _)) λ_=>by kernel_rfl
def aQ4 :FSum:=⟨35,[g],[bC2,bc8,b,b,d,d,h,x,k,b],[dK4],by exact u30 qd⟩
theorem aT1 :Rt aQ4:=bj (ins:=[⟨27,bl aB 27 ⟨[],[]⟩ .no⟩]) (at':= .no) (.cons aW9 (.nil _)) (aa.cons (am (.nil _) (aa.nil _)) (aa.nil _)) λ_=>by kernel_rfl
def cJ7 :FSum:=⟨72,[wZ],[],[cI8],al4⟩
theorem bO4 :Rt cJ7:=rq (dU3) (.nil _) λ_=>by kernel_rfl
def cJ6 :FSum:=⟨71,[wZ],[],[cI8],al3⟩
theorem bO3 :Rt cJ6:=rq (dU3) (.nil _) λ_=>by kernel_rfl
def ck5 :FSum:=⟨68,[wZ],[],[cI8],ah5⟩
theorem cn0 :Rt ck5:=rq (dU3) (.cons bO4 (.cons bO3 (.nil _))) λ_=>by kernel_rfl
def bL4 :FSum:=⟨34,[wZ,dJ1],[],[dV3],by exact u17 sE⟩
theorem an0 :Rt bL4:=rq (.no) (.cons cn0 (.nil _)) λ_=>by kernel_rfl
def aG2 :FSum:=⟨14,[g],[bC2,bc8,b,b,d,d,h,x,k,b],[⟨.ret,[],⟨[(.tup [(.full 10),p])],[],[c]⟩⟩],by exact u30 oh⟩
theorem aI7 :Rt aG2:=rq (.no) (.cons xi (.cons ay3 (.cons aT1 (.cons an0 (.nil _))))) λ_=>by kernel_rfl
def bY7 :FSum:=⟨37,[wZ],[],[⟨.ret,[],⟨[(.tup [(.full 0),dJ1,a])],[],[c]⟩⟩],oq⟩
theorem bj9 :Rt bY7:=rq ((.n .no (.n (.n .no (.n (.jn [] [] [⟨.normal,[13],⟨[j],[],[]⟩⟩] .no .no) .no)) (.n .no (.n .no (.n .no (.n (.n .no (.n (.lp [] ⟨.normal,[36,7],⟨[a,i],[],[]⟩⟩ [⟨(.exit 1),[7],⟨[i],[],[]⟩⟩] .no) .no)) .no))))))) (.cons bO4 (.cons bO3 (.cons cj (.nil _)))) λ_=>by kernel_rfl
def ag1 :FSum:=⟨164,[g,i],[cY5,b,b,d,d,h],[o],by exact u23 kf⟩
theorem bi3 :Rt ag1:=rq (.no) (.nil _) λ_=>by kernel_rfl
def bp0 :FSum:=⟨165,[wZ],[],[cJ0,eh0],ah4⟩
theorem cm7 :Rt bp0:=rq (.no) (.cons bj4 (.cons cj (.nil _))) λ_=>by kernel_rfl
def aa4 :FSum:=⟨60,[.nilp,a],[],[⟨.ret,[],⟨[(.tup [p,(.cint .i64 1)])],[],[]⟩⟩],zZ⟩
theorem aW8 :Rt aa4:=rq (.no) (.nil _) λ_=>by kernel_rfl
def ar5 :FSum:=⟨61,[g],[cY5,b,b,d,d,h],[o],by exact u22 ql⟩
theorem vM :Rt ar5:=rq (.no) (.nil _) λ_=>by kernel_rfl
def bZ8 :FSum:=⟨227,[.nilp,a,a,a],[],[⟨.ret,[],⟨[(.tup [.nilp,(.cint .i64 1)])],[],[]⟩⟩],by exact u3 bj1⟩
theorem cb7 :Rt bZ8:=rq (.no) (.nil _) λ_=>by kernel_rfl
def yT :FSum:=⟨166,[g],[cY5,b,b,d,d,h],[o],by exact u22 yN⟩
theorem aT0 :Rt yT:=rq (.no) (.cons vM (.cons cb7 (.nil _))) λ_=>by kernel_rfl
def bl4 :FSum:=⟨228,[.nilp],[],[⟨.ret,[],⟨[p],[],[]⟩⟩],λ_=>wO⟩
theorem an5 :Rt bl4:=rq ((.n .no (.n .no (.n (.n .no (.n (.lp [] ⟨.normal,[9,3],⟨[p,p],[],[]⟩⟩ [⟨(.exit 0),[3],⟨[p],[],[]⟩⟩] .no) .no)) .no)))) (.cons wW (.nil _)) λ_=>by kernel_rfl
def ag0 :FSum:=⟨167,[g],[cY5,b,b,d,d,h],[q],by exact u22 af6⟩
theorem bi2 :Rt ag0:=rq (.no) (.cons vM (.cons an5 (.nil _))) λ_=>by kernel_rfl
def ar6 :FSum:=⟨61,[g],[dU1,b,b,d,d,h,cY7,b],[o],by exact u24 eu⟩
theorem vN :Rt ar6:=rq (.no) (.nil _) λ_=>by kernel_rfl
def bG4 :FSum:=⟨227,[g,a,a,a],[cj4,b],[cJ0,⟨.ret,[],⟨[(.tup [(.ptr 2 0),p])],[],[ei7]⟩⟩],by exact u5 wF⟩
theorem bH5 :Rt bG4:=rq ((.n .no (.n .no (.n .no (.n .no (.n (.n .no (.n (.lp [] ⟨.normal,[41],⟨[a],[],[]⟩⟩ [⟨.ret,[8,9],⟨[.nilp,(.cint .i64 2)],[],[]⟩⟩,⟨(.exit 1),[],⟨[],[],[]⟩⟩] .no) .no)) .no)))))) (.cons au0 (.cons tX (.cons lg (.cons pm (.cons rr (.nil _)))))) λ_=>by kernel_rfl
def aP5 :FSum:=⟨67,[g],[dU1,b,b,d,d,h,cY7,b],[dU9],by exact u24 yK⟩
theorem aS0 :Rt aP5:=rq (.no) (.cons wW (.nil _)) λ_=>by kernel_rfl
def aP6 :FSum:=⟨67,[g],[dU2,b,b,d,d,h,yD,yF,b],[⟨.ret,[],⟨[(.agg [a,a,(.full 9)])],[],[m]⟩⟩],by exact u27 ul⟩
theorem aS1 :Rt aP6:=rq (.no) (.cons vc (.nil _)) λ_=>by kernel_rfl
def xc :FSum:=⟨166,[g],[ee7,b,b,d,d,h,cY7,b],[⟨.ret,[],⟨[j],[ee7],[]⟩⟩,⟨.ret,[],⟨[j],[(.cells 1 Zb [a,a,a,a,a,v,w,a,y,a,vq,a,a,xC,bJ0,bw4, .nilp,a,a,a,a,a,a,a,i])],[dy4]⟩⟩],by exact u24 mq⟩
theorem aB4 :Rt xc:=rq (.no) (.cons vN (.cons bH5 (.cons aS0 (.cons yo (.cons aS1 (.nil _)))))) λ_=>by kernel_rfl
def yR :FSum:=⟨167,[g],[dU1,b,b,d,d,h,cY7,b],[q],by exact u24 um⟩
theorem aS8 :Rt yR:=rq (.no) (.cons vN (.cons an5 (.nil _))) λ_=>by kernel_rfl
def ar7 :FSum:=⟨61,[g],[dU2,b,b,d,d,h,yD,yF,b],[o],by exact u27 qm⟩
theorem as4 :Rt ar7:=rq (.no) (.nil _) λ_=>by kernel_rfl
def aW6 :FSum:=⟨228,[g],[dz0,cI7,b],[q],by exact u5 uQ⟩
theorem aY5 :Rt aW6:=rq ((.n .no (.n .no (.n (.n .no (.n (.lp [] ⟨.normal,[9,3],⟨[a,a],[],[]⟩⟩ [cZ2] .no) .no)) .no)))) (.cons vc (.nil _)) λ_=>by kernel_rfl
def yS :FSum:=⟨167,[g],[dU2,b,b,d,d,h,yD,yF,b],[q],by exact u27 uo⟩
theorem aS9 :Rt yS:=rq (.no) (.cons as4 (.cons aY5 (.nil _))) λ_=>by kernel_rfl
def bY0 :FSum:=⟨70,[zN,wZ,dJ1],[],[cJ0,eg0,ef3],by exact u26 jr⟩
theorem ca4 :Rt bY0:=bj (ins:=[⟨111,bl aB 111 ⟨[ag1,bp0,aa4,yT,ag0,bL8,am3,xc,yR,yS],[]⟩ (.n .no (.n .no (.n .no (.n .no (.n .no (.n .no (.sz 6011 (.jn [2] [] [⟨.ret,[6],⟨[j],[ee6],[]⟩⟩,⟨.ret,[6],⟨[j],[zw8],[ei9]⟩⟩,⟨.normal,[],⟨[],[ee6],[]⟩⟩,⟨.normal,[],⟨[],[zw8],[ei9]⟩⟩] .no .no) .no)))))))⟩]) (at':= .no) (.cons bj5 (.nil _)) (aa.cons (am (.cons bi3 (.cons cm7 (.cons aW8 (.cons aT0 (.cons bi2 (.cons bN4 (.cons wS (.cons aB4 (.cons aS8 (.cons aS9 (.nil _))))))))))) (aa.nil _)) (aa.nil _)) λ_=>by kernel_rfl
def bY8 :FSum:=⟨36,[zN,wZ],[],[cJ0,eg0,ef3],by exact u10 sd⟩
theorem ca6 :Rt bY8:=rq (.no) (.cons bj9 (.cons ca4 (.nil _))) λ_=>by kernel_rfl
def aP7 :FSum:=⟨67,[.nilp],[],[eh9],λ_=>yL⟩
theorem aS2 :Rt aP7:=rq (.no) (.nil _) λ_=>by kernel_rfl
def aG6 :FSum:=⟨32,[g],[eh8],[eh9],by exact u3 xM⟩
theorem aI8 :Rt aG6:=bj (ins:=[⟨27,bl aB 27 ⟨[],[]⟩ .no⟩]) (at':= .no) (.cons aS2 (.nil _)) (aa.cons (am (.nil _) (aa.nil _)) (aa.nil _)) λ_=>by kernel_rfl
def bh3 :FSum:=⟨38,[g,i,i],[eh8],[o],by exact u5 af8⟩
theorem bi5 :Rt bh3:=rq (dJ7) (.cons aI8 (.nil _)) λ_=>by kernel_rfl
def aR0 :FSum:=⟨38,[g,i,i],[bC2,bc8,b,b,d,d,h,x,k,b],[o],by exact u32 qe⟩
theorem aT4 :Rt aR0:=rq (dJ7) (.cons uZ (.cons ag8 (.nil _))) λ_=>by kernel_rfl
def aR1 :FSum:=⟨38,[g,i,i],[bC3,vR,b,b,d,d,h,yE,yJ,k,b],[o],by exact u35 qf⟩
theorem aT5 :Rt aR1:=rq (dJ7) (.cons tS (.cons yY (.nil _))) λ_=>by kernel_rfl
def aR2 :FSum:=⟨38,[g,i,i],[bC4,vR,b,b,d,d,h,yE,yJ,k,b],[o],by exact u35 qg⟩
theorem aT6 :Rt aR2:=rq (dJ7) (.cons tT (.cons yZ (.nil _))) λ_=>by kernel_rfl
def bY2 :FSum:=⟨15,[zN,wZ],[],[cJ0,⟨.ret,[],⟨[bw5],[],[dK0,bw6,c,c,r,r,m,cZ1,l,c]⟩⟩,⟨.ret,[],⟨[bw5],[],[dJ9,av2,c,c,r,r,m,dz3,dz1,l,c]⟩⟩,⟨.ret,[],⟨[bw5],[],[dK1,av2,c,c,r,r,m,dz3,dz1,l,c]⟩⟩],by exact u10 jt⟩
theorem ca5 :Rt bY2:=rq (.no) (.cons ca6 (.cons bj9 (.cons bC9 (.cons bi5 (.cons bj6 (.cons aT4 (.cons bj7 (.cons aT5 (.cons aT6 (.nil _)))))))))) λ_=>by kernel_rfl
def cl7 :FSum:=⟨19,[(.leaf (.list zh5)),(.leaf (.list zh5))],[],[o],by exact u2 vz⟩
theorem cn6 :Rt cl7:=rq ((.n .no (.n .no (.n ef7 .no)))) (.nil _) λ_=>by kernel_rfl
def aP0 :FSum:=⟨80,[g],[bd0,b,b,d,d,h,x,yF,k,b],[q],by exact u30 uj⟩
theorem aR7 :Rt aP0:=rq (.no) (.cons an2 (.nil _)) λ_=>by kernel_rfl
def aP2 :FSum:=⟨81,[g],[bd0,b,b,d,d,h,x,yF,k,b],[q],by exact u30 uk⟩
theorem aR8 :Rt aP2:=rq (.no) (.cons an3 (.nil _)) λ_=>by kernel_rfl
def aw7 :FSum:=⟨41,[g],[bd0,b,b,d,d,h,x,yF,k,b],[cI9],by exact u30 iw⟩
theorem wm :Rt aw7:=rq ((.n .no (.n .no (.n .no (.n .no (.n (.n .no (.n (.lp [11] ef4 [ef5] .no) .no)) .no)))))) (.cons aR7 (.cons aR8 (.nil _))) λ_=>by kernel_rfl
def ar8 :FSum:=⟨20,[g],[bC3,vR,b,b,d,d,h,yE,yJ,k,b],[cI9],by exact u33 ew⟩
theorem vO :Rt ar8:=bj (ins:=[⟨27,bl aB 27 ⟨[],[]⟩ .no⟩]) (at':= .no) (.cons wm (.nil _)) (aa.cons (am (.nil _) (aa.nil _)) (aa.nil _)) λ_=>by kernel_rfl
def aE7 :FSum:=⟨69,[g],[bd0,b,b,d,d,h,x,yF,k,b],[dK4],by exact u30 ju⟩
theorem yk :Rt aE7:=rq (.no) (.cons ag3 (.nil _)) λ_=>by kernel_rfl
def aA2 :FSum:=⟨35,[g],[bC3,vR,b,b,d,d,h,yE,yJ,k,b],[ej6],by exact u33 mr⟩
theorem aB5 :Rt aA2:=bj (ins:=[⟨27,bl aB 27 ⟨[],[]⟩ .no⟩]) (at':= .no) (.cons yk (.nil _)) (aa.cons (am (.nil _) (aa.nil _)) (aa.nil _)) λ_=>by kernel_rfl
def ax1 :FSum:=⟨14,[g],[bC3,vR,b,b,d,d,h,yE,yJ,k,b],[eh7],by exact u33 lq⟩
theorem ay1 :Rt ax1:=rq (.no) (.cons vO (.cons ay3 (.cons aB5 (.cons an0 (.nil _))))) λ_=>by kernel_rfl
def ar9 :FSum:=⟨20,[g],[bC4,vR,b,b,d,d,h,yE,yJ,k,b],[cI9],by exact u33 ey⟩
theorem vP :Rt ar9:=bj (ins:=[⟨27,bl aB 27 ⟨[],[]⟩ .no⟩]) (at':= .no) (.cons wm (.nil _)) (aa.cons (am (.nil _) (aa.nil _)) (aa.nil _)) λ_=>by kernel_rfl
def aA3 :FSum:=⟨35,[g],[bC4,vR,b,b,d,d,h,yE,yJ,k,b],[ej6],by exact u33 mt⟩
theorem aB6 :Rt aA3:=bj (ins:=[⟨27,bl aB 27 ⟨[],[]⟩ .no⟩]) (at':= .no) (.cons yk (.nil _)) (aa.cons (am (.nil _) (aa.nil _)) (aa.nil _)) λ_=>by kernel_rfl
def ax2 :FSum:=⟨14,[g],[bC4,vR,b,b,d,d,h,yE,yJ,k,b],[eh7],by exact u33 lr⟩
theorem ay2 :Rt ax2:=rq (.no) (.cons vP (.cons ay3 (.cons aB6 (.cons an0 (.nil _))))) λ_=>by kernel_rfl
def aH7 :FSum:=⟨4,[zN,(.leaf (.int .u8)),(.leaf (.int .u16))],[],[o],by exact u11 lu⟩
theorem co3 :Rt aH7:=rq ((.n .no (.n .no (.n .no (.n .no (.n .no (.sz 10400024 zw0 (.sz 10260024 zw0 (.sz 10555023 zw0 (.sz 1300013 zw0 (.sz 10380024 zw0 (.sz 10240024 zw0 (.sz 10535023 zw0 (.sz 1280013 zw0 (.sz 9774023 zw0 (.sz 9644023 zw0 (.sz 9918022 zw0 (.sz 1324012 zw0 (.sz 1300012 zw0 (.sz 1280012 zw0 (.sz 1323011 zw0 zw0))))))))))))))))))))) (.cons cy1 (.cons cy2 (.cons cy0 (.cons cZ7 (.cons aI9 (.cons uY (.cons aI7 (.cons ca5 (.cons vb (.cons uv (.cons ab7 (.cons yn (.cons bq8 (.cons cn6 (.cons xi (.cons tQ (.cons ay1 (.cons tU (.cons sO (.cons yl (.cons wo (.cons vO (.cons tR (.cons ay2 (.cons tV (.cons sP (.cons ym (.cons wq (.cons vP (.nil _)))))))))))))))))))))))))))))) λ_=>by kernel_rfl
end
end Go.V
