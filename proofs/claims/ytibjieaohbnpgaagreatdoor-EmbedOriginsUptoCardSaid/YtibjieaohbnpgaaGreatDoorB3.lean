/- The ties of the lowered functions to the program. -/
import Derived.Test.YtibjieaohbnpgaaGreatDoorB2
import Derived.Test.YtibjieaohbnpgaaGreatDoorProg
import Derived.KernelRfl
import Derived.Test.YtibjieaohbnpgaaGreatDoorRows
import Derived.Test.YtibjieaohbnpgaaGreatDoorA8
namespace Go.Proofs.YtibjieaohbnpgaaGreatDoor.Ae
open Go Go.AE Go.AE.Fns
set_option maxRecDepth 100000
def seat : SeatT where
  id := (.n 243 452 (.n 138 127 (.n 83 126 (.n 52 185 (.n 37 259 (.n 26 71 (.n 19 382 (.n 13 236 (.n 5 380 .l .l) (.n 18 381 .l .l)) (.n 25 91 (.n 24 115 .l .l) .l)) (.n 32 116 (.n 29 192 (.n 28 197 .l .l) .l) (.n 34 48 (.n 33 78 .l .l) .l))) (.n 45 396 (.n 42 392 (.n 40 390 (.n 39 389 .l .l) (.n 41 391 .l .l)) (.n 44 394 (.n 43 393 .l .l) .l)) (.n 49 7 (.n 48 114 (.n 46 395 .l .l) .l) (.n 51 92 (.n 50 275 .l .l) .l)))) (.n 70 398 (.n 61 49 (.n 56 16 (.n 54 15 (.n 53 201 .l .l) (.n 55 18 .l .l)) (.n 60 163 (.n 59 186 .l .l) .l)) (.n 64 40 (.n 63 190 (.n 62 52 .l .l) .l) (.n 69 244 (.n 65 80 .l .l) .l))) (.n 77 405 (.n 74 82 (.n 72 400 (.n 71 399 .l .l) (.n 73 401 .l .l)) (.n 76 403 (.n 75 402 .l .l) .l)) (.n 80 407 (.n 79 406 (.n 78 404 .l .l) .l) (.n 82 130 (.n 81 408 .l .l) .l))))) (.n 110 41 (.n 96 151 (.n 90 10 (.n 87 182 (.n 85 124 (.n 84 128 .l .l) (.n 86 129 .l .l)) (.n 89 123 (.n 88 118 .l .l) .l)) (.n 93 3 (.n 92 277 (.n 91 276 .l .l) .l) (.n 95 184 (.n 94 4 .l .l) .l))) (.n 104 176 (.n 100 19 (.n 98 181 (.n 97 281 .l .l) (.n 99 187 .l .l)) (.n 103 152 (.n 101 20 .l .l) .l)) (.n 107 202 (.n 106 53 (.n 105 180 .l .l) .l) (.n 109 44 (.n 108 45 .l .l) .l)))) (.n 125 425 (.n 119 411 (.n 114 17 (.n 112 81 (.n 111 43 .l .l) (.n 113 227 .l .l)) (.n 118 409 (.n 117 242 .l .l) .l)) (.n 122 422 (.n 121 421 (.n 120 410 .l .l) .l) (.n 124 424 (.n 123 423 .l .l) .l))) (.n 132 415 (.n 129 413 (.n 127 426 (.n 126 427 .l .l) (.n 128 412 .l .l)) (.n 131 416 (.n 130 414 .l .l) .l)) (.n 135 418 (.n 134 84 (.n 133 430 .l .l) .l) (.n 137 419 (.n 136 417 .l .l) .l)))))) (.n 191 440 (.n 164 50 (.n 151 21 (.n 145 132 (.n 142 279 (.n 140 189 (.n 139 278 .l .l) (.n 141 125 .l .l)) (.n 144 122 (.n 143 280 .l .l) .l)) (.n 148 135 (.n 147 198 (.n 146 148 .l .l) .l) (.n 150 194 (.n 149 119 .l .l) .l))) (.n 158 286 (.n 155 6 (.n 153 282 (.n 152 131 .l .l) (.n 154 283 .l .l)) (.n 157 285 (.n 156 284 .l .l) .l)) (.n 161 11 (.n 160 121 (.n 159 287 .l .l) .l) (.n 163 120 (.n 162 193 .l .l) .l)))) (.n 177 216 (.n 171 140 (.n 168 150 (.n 166 12 (.n 165 5 .l .l) (.n 167 8 .l .l)) (.n 170 212 (.n 169 265 .l .l) .l)) (.n 174 143 (.n 173 139 (.n 172 153 .l .l) .l) (.n 176 215 (.n 175 188 .l .l) .l))) (.n 185 247 (.n 181 83 (.n 179 158 (.n 178 260 .l .l) (.n 180 42 .l .l)) (.n 184 252 (.n 183 253 .l .l) .l)) (.n 188 428 (.n 187 420 (.n 186 248 .l .l) .l) (.n 190 438 (.n 189 439 .l .l) .l))))) (.n 217 293 (.n 204 134 (.n 198 191 (.n 195 444 (.n 193 431 (.n 192 441 .l .l) (.n 194 442 .l .l)) (.n 197 429 (.n 196 443 .l .l) .l)) (.n 201 200 (.n 200 196 (.n 199 154 .l .l) .l) (.n 203 136 (.n 202 199 .l .l) .l))) (.n 211 289 (.n 208 117 (.n 206 27 (.n 205 133 .l .l) (.n 207 23 .l .l)) (.n 210 288 (.n 209 142 .l .l) .l)) (.n 214 290 (.n 213 9 (.n 212 54 .l .l) .l) (.n 216 292 (.n 215 291 .l .l) .l)))) (.n 231 432 (.n 225 250 (.n 221 245 (.n 219 264 (.n 218 204 .l .l) (.n 220 228 .l .l)) (.n 223 171 (.n 222 263 .l .l) .l)) (.n 228 249 (.n 227 246 (.n 226 255 .l .l) .l) (.n 230 433 (.n 229 256 .l .l) .l))) (.n 237 446 (.n 234 437 (.n 233 434 (.n 232 435 .l .l) .l) (.n 236 445 (.n 235 436 .l .l) .l)) (.n 240 449 (.n 239 448 (.n 238 447 .l .l) .l) (.n 242 451 (.n 241 450 .l .l) .l))))))) (.n 347 333 (.n 295 209 (.n 269 257 (.n 256 22 (.n 250 203 (.n 247 266 (.n 245 455 (.n 244 453 .l .l) (.n 246 454 .l .l)) (.n 249 195 (.n 248 141 .l .l) .l)) (.n 253 137 (.n 252 210 (.n 251 213 .l .l) .l) (.n 255 28 (.n 254 29 .l .l) .l))) (.n 263 297 (.n 260 295 (.n 258 56 (.n 257 294 .l .l) (.n 259 79 .l .l)) (.n 262 251 (.n 261 300 .l .l) .l)) (.n 266 298 (.n 265 261 (.n 264 262 .l .l) .l) (.n 268 296 (.n 267 299 .l .l) .l)))) (.n 282 303 (.n 276 309 (.n 273 214 (.n 271 456 (.n 270 211 .l .l) (.n 272 457 .l .l)) (.n 275 138 (.n 274 301 .l .l) .l)) (.n 279 26 (.n 278 25 (.n 277 207 .l .l) .l) (.n 281 302 (.n 280 30 .l .l) .l))) (.n 289 254 (.n 286 306 (.n 284 61 (.n 283 304 .l .l) (.n 285 62 .l .l)) (.n 288 305 (.n 287 307 .l .l) .l)) (.n 292 13 (.n 291 310 (.n 290 308 .l .l) .l) (.n 294 208 (.n 293 14 .l .l) .l))))) (.n 321 323 (.n 308 314 (.n 302 39 (.n 299 55 (.n 297 312 (.n 296 311 .l .l) (.n 298 313 .l .l)) (.n 301 60 (.n 300 175 .l .l) .l)) (.n 305 217 (.n 304 32 (.n 303 157 .l .l) .l) (.n 307 63 (.n 306 159 .l .l) .l))) (.n 315 321 (.n 312 317 (.n 310 315 (.n 309 327 .l .l) (.n 311 316 .l .l)) (.n 314 319 (.n 313 318 .l .l) .l)) (.n 318 206 (.n 317 145 (.n 316 320 .l .l) .l) (.n 320 144 (.n 319 146 .l .l) .l)))) (.n 334 31 (.n 328 93 (.n 325 322 (.n 323 205 (.n 322 147 .l .l) (.n 324 376 .l .l)) (.n 327 85 (.n 326 324 .l .l) .l)) (.n 331 325 (.n 330 57 (.n 329 65 .l .l) .l) (.n 333 34 (.n 332 33 .l .l) .l))) (.n 341 172 (.n 338 58 (.n 336 35 (.n 335 36 .l .l) (.n 337 170 .l .l)) (.n 340 326 (.n 339 38 .l .l) .l)) (.n 344 330 (.n 343 328 (.n 342 329 .l .l) .l) (.n 346 332 (.n 345 331 .l .l) .l)))))) (.n 399 109 (.n 373 64 (.n 360 219 (.n 354 107 (.n 351 377 (.n 349 335 (.n 348 334 .l .l) (.n 350 336 .l .l)) (.n 353 337 (.n 352 378 .l .l) .l)) (.n 357 87 (.n 356 86 (.n 355 102 .l .l) .l) (.n 359 104 (.n 358 101 .l .l) .l))) (.n 367 88 (.n 364 221 (.n 362 106 (.n 361 220 .l .l) (.n 363 222 .l .l)) (.n 366 103 (.n 365 108 .l .l) .l)) (.n 370 224 (.n 369 223 (.n 368 105 .l .l) .l) (.n 372 155 (.n 371 97 .l .l) .l)))) (.n 386 94 (.n 380 89 (.n 377 339 (.n 375 67 (.n 374 68 .l .l) (.n 376 338 .l .l)) (.n 379 162 (.n 378 66 .l .l) .l)) (.n 383 156 (.n 382 340 (.n 381 37 .l .l) .l) (.n 385 161 (.n 384 59 .l .l) .l))) (.n 393 348 (.n 390 345 (.n 388 343 (.n 387 342 .l .l) (.n 389 344 .l .l)) (.n 392 347 (.n 391 346 .l .l) .l)) (.n 396 341 (.n 395 350 (.n 394 349 .l .l) .l) (.n 398 112 (.n 397 351 .l .l) .l))))) (.n 425 363 (.n 412 355 (.n 406 352 (.n 403 167 (.n 401 113 (.n 400 111 .l .l) (.n 402 110 .l .l)) (.n 405 2 (.n 404 98 .l .l) .l)) (.n 409 364 (.n 408 218 (.n 407 177 .l .l) .l) (.n 411 354 (.n 410 353 .l .l) .l))) (.n 419 99 (.n 416 357 (.n 414 95 (.n 413 164 .l .l) (.n 415 356 .l .l)) (.n 418 174 (.n 417 168 .l .l) .l)) (.n 422 360 (.n 421 359 (.n 420 358 .l .l) .l) (.n 424 362 (.n 423 361 .l .l) .l)))) (.n 438 368 (.n 432 366 (.n 429 365 (.n 427 1 (.n 426 69 .l .l) (.n 428 90 .l .l)) (.n 431 369 (.n 430 179 .l .l) .l)) (.n 435 367 (.n 434 225 (.n 433 165 .l .l) .l) (.n 437 100 (.n 436 169 .l .l) .l))) (.n 444 373 (.n 441 371 (.n 440 166 (.n 439 96 .l .l) .l) (.n 443 370 (.n 442 178 .l .l) .l)) (.n 447 374 (.n 446 226 (.n 445 372 .l .l) .l) (.n 476 24 (.n 448 375 .l .l) .l))))))))
  fid := (.n 221 364 (.n 114 48 (.n 55 299 (.n 26 279 (.n 13 292 (.n 7 49 (.n 4 94 (.n 2 405 (.n 1 427 .l .l) (.n 3 93 .l .l)) (.n 6 155 (.n 5 165 .l .l) .l)) (.n 10 90 (.n 9 213 (.n 8 167 .l .l) .l) (.n 12 166 (.n 11 161 .l .l) .l))) (.n 20 101 (.n 17 114 (.n 15 54 (.n 14 293 .l .l) (.n 16 56 .l .l)) (.n 19 100 (.n 18 55 .l .l) .l)) (.n 23 207 (.n 22 256 (.n 21 151 .l .l) .l) (.n 25 278 (.n 24 476 .l .l) .l)))) (.n 39 302 (.n 33 332 (.n 30 280 (.n 28 255 (.n 27 206 .l .l) (.n 29 254 .l .l)) (.n 32 304 (.n 31 334 .l .l) .l)) (.n 36 335 (.n 35 336 (.n 34 333 .l .l) .l) (.n 38 339 (.n 37 381 .l .l) .l))) (.n 48 34 (.n 43 111 (.n 41 110 (.n 40 64 .l .l) (.n 42 180 .l .l)) (.n 45 108 (.n 44 109 .l .l) .l)) (.n 52 62 (.n 50 164 (.n 49 61 .l .l) .l) (.n 54 212 (.n 53 106 .l .l) .l))))) (.n 88 367 (.n 68 374 (.n 62 285 (.n 59 384 (.n 57 330 (.n 56 258 .l .l) (.n 58 338 .l .l)) (.n 61 284 (.n 60 301 .l .l) .l)) (.n 65 329 (.n 64 373 (.n 63 307 .l .l) .l) (.n 67 375 (.n 66 378 .l .l) .l))) (.n 82 74 (.n 79 259 (.n 71 26 (.n 69 426 .l .l) (.n 78 33 .l .l)) (.n 81 112 (.n 80 65 .l .l) .l)) (.n 85 327 (.n 84 134 (.n 83 181 .l .l) .l) (.n 87 357 (.n 86 356 .l .l) .l)))) (.n 101 358 (.n 95 414 (.n 92 51 (.n 90 428 (.n 89 380 .l .l) (.n 91 25 .l .l)) (.n 94 386 (.n 93 328 .l .l) .l)) (.n 98 404 (.n 97 371 (.n 96 439 .l .l) .l) (.n 100 437 (.n 99 419 .l .l) .l))) (.n 108 365 (.n 105 368 (.n 103 366 (.n 102 355 .l .l) (.n 104 359 .l .l)) (.n 107 354 (.n 106 362 .l .l) .l)) (.n 111 400 (.n 110 402 (.n 109 399 .l .l) .l) (.n 113 401 (.n 112 398 .l .l) .l)))))) (.n 168 417 (.n 140 171 (.n 127 138 (.n 121 160 (.n 118 88 (.n 116 32 (.n 115 24 .l .l) (.n 117 208 .l .l)) (.n 120 163 (.n 119 149 .l .l) .l)) (.n 124 85 (.n 123 89 (.n 122 144 .l .l) .l) (.n 126 83 (.n 125 141 .l .l) .l))) (.n 134 204 (.n 131 152 (.n 129 86 (.n 128 84 .l .l) (.n 130 82 .l .l)) (.n 133 205 (.n 132 145 .l .l) .l)) (.n 137 253 (.n 136 203 (.n 135 148 .l .l) .l) (.n 139 173 (.n 138 275 .l .l) .l)))) (.n 154 199 (.n 147 322 (.n 144 320 (.n 142 209 (.n 141 248 .l .l) (.n 143 174 .l .l)) (.n 146 319 (.n 145 317 .l .l) .l)) (.n 151 96 (.n 150 168 (.n 148 146 .l .l) .l) (.n 153 172 (.n 152 103 .l .l) .l))) (.n 162 379 (.n 158 179 (.n 156 383 (.n 155 372 .l .l) (.n 157 303 .l .l)) (.n 161 385 (.n 159 306 .l .l) .l)) (.n 165 433 (.n 164 413 (.n 163 60 .l .l) .l) (.n 167 403 (.n 166 440 .l .l) .l))))) (.n 196 200 (.n 182 87 (.n 176 104 (.n 172 341 (.n 170 337 (.n 169 436 .l .l) (.n 171 223 .l .l)) (.n 175 300 (.n 174 418 .l .l) .l)) (.n 179 430 (.n 178 442 (.n 177 407 .l .l) .l) (.n 181 98 (.n 180 105 .l .l) .l))) (.n 190 63 (.n 187 99 (.n 185 52 (.n 184 95 .l .l) (.n 186 59 .l .l)) (.n 189 140 (.n 188 175 .l .l) .l)) (.n 193 162 (.n 192 29 (.n 191 198 .l .l) .l) (.n 195 249 (.n 194 150 .l .l) .l)))) (.n 209 295 (.n 203 250 (.n 200 201 (.n 198 147 (.n 197 28 .l .l) (.n 199 202 .l .l)) (.n 202 107 (.n 201 53 .l .l) .l)) (.n 206 318 (.n 205 323 (.n 204 218 .l .l) .l) (.n 208 294 (.n 207 277 .l .l) .l))) (.n 215 176 (.n 212 170 (.n 211 270 (.n 210 252 .l .l) .l) (.n 214 273 (.n 213 251 .l .l) .l)) (.n 218 408 (.n 217 305 (.n 216 177 .l .l) .l) (.n 220 361 (.n 219 360 .l .l) .l))))))) (.n 347 392 (.n 295 260 (.n 261 265 (.n 247 185 (.n 228 220 (.n 225 434 (.n 223 369 (.n 222 363 .l .l) (.n 224 370 .l .l)) (.n 227 113 (.n 226 446 .l .l) .l)) (.n 244 69 (.n 242 117 (.n 236 13 .l .l) .l) (.n 246 227 (.n 245 221 .l .l) .l))) (.n 254 289 (.n 251 262 (.n 249 228 (.n 248 186 .l .l) (.n 250 225 .l .l)) (.n 253 183 (.n 252 184 .l .l) .l)) (.n 257 269 (.n 256 229 (.n 255 226 .l .l) .l) (.n 260 178 (.n 259 37 .l .l) .l)))) (.n 282 153 (.n 276 91 (.n 265 169 (.n 263 222 (.n 262 264 .l .l) (.n 264 219 .l .l)) (.n 275 50 (.n 266 247 .l .l) .l)) (.n 279 142 (.n 278 139 (.n 277 92 .l .l) .l) (.n 281 97 (.n 280 143 .l .l) .l))) (.n 289 211 (.n 286 158 (.n 284 156 (.n 283 154 .l .l) (.n 285 157 .l .l)) (.n 288 210 (.n 287 159 .l .l) .l)) (.n 292 216 (.n 291 215 (.n 290 214 .l .l) .l) (.n 294 257 (.n 293 217 .l .l) .l))))) (.n 321 315 (.n 308 290 (.n 302 281 (.n 299 267 (.n 297 263 (.n 296 268 .l .l) (.n 298 266 .l .l)) (.n 301 274 (.n 300 261 .l .l) .l)) (.n 305 288 (.n 304 283 (.n 303 282 .l .l) .l) (.n 307 287 (.n 306 286 .l .l) .l))) (.n 315 310 (.n 312 297 (.n 310 291 (.n 309 276 .l .l) (.n 311 296 .l .l)) (.n 314 308 (.n 313 298 .l .l) .l)) (.n 318 313 (.n 317 312 (.n 316 311 .l .l) .l) (.n 320 316 (.n 319 314 .l .l) .l)))) (.n 334 348 (.n 328 343 (.n 325 331 (.n 323 321 (.n 322 325 .l .l) (.n 324 326 .l .l)) (.n 327 309 (.n 326 340 .l .l) .l)) (.n 331 345 (.n 330 344 (.n 329 342 .l .l) .l) (.n 333 347 (.n 332 346 .l .l) .l))) (.n 341 396 (.n 338 376 (.n 336 350 (.n 335 349 .l .l) (.n 337 353 .l .l)) (.n 340 382 (.n 339 377 .l .l) .l)) (.n 344 389 (.n 343 388 (.n 342 387 .l .l) .l) (.n 346 391 (.n 345 390 .l .l) .l)))))) (.n 407 80 (.n 373 444 (.n 360 422 (.n 354 411 (.n 351 397 (.n 349 394 (.n 348 393 .l .l) (.n 350 395 .l .l)) (.n 353 410 (.n 352 406 .l .l) .l)) (.n 357 416 (.n 356 415 (.n 355 412 .l .l) .l) (.n 359 421 (.n 358 420 .l .l) .l))) (.n 367 435 (.n 364 409 (.n 362 424 (.n 361 423 .l .l) (.n 363 425 .l .l)) (.n 366 432 (.n 365 429 .l .l) .l)) (.n 370 443 (.n 369 431 (.n 368 438 .l .l) .l) (.n 372 445 (.n 371 441 .l .l) .l)))) (.n 393 43 (.n 381 18 (.n 377 351 (.n 375 448 (.n 374 447 .l .l) (.n 376 324 .l .l)) (.n 380 5 (.n 378 352 .l .l) .l)) (.n 390 40 (.n 389 39 (.n 382 19 .l .l) .l) (.n 392 42 (.n 391 41 .l .l) .l))) (.n 401 73 (.n 398 70 (.n 395 46 (.n 394 44 .l .l) (.n 396 45 .l .l)) (.n 400 72 (.n 399 71 .l .l) .l)) (.n 404 78 (.n 403 76 (.n 402 75 .l .l) .l) (.n 406 79 (.n 405 77 .l .l) .l))))) (.n 433 230 (.n 420 187 (.n 414 130 (.n 411 119 (.n 409 118 (.n 408 81 .l .l) (.n 410 120 .l .l)) (.n 413 129 (.n 412 128 .l .l) .l)) (.n 417 136 (.n 416 131 (.n 415 132 .l .l) .l) (.n 419 137 (.n 418 135 .l .l) .l))) (.n 427 126 (.n 424 124 (.n 422 122 (.n 421 121 .l .l) (.n 423 123 .l .l)) (.n 426 127 (.n 425 125 .l .l) .l)) (.n 430 133 (.n 429 197 (.n 428 188 .l .l) .l) (.n 432 231 (.n 431 193 .l .l) .l)))) (.n 446 237 (.n 440 191 (.n 437 234 (.n 435 232 (.n 434 233 .l .l) (.n 436 235 .l .l)) (.n 439 189 (.n 438 190 .l .l) .l)) (.n 443 196 (.n 442 194 (.n 441 192 .l .l) .l) (.n 445 236 (.n 444 195 .l .l) .l))) (.n 452 243 (.n 449 240 (.n 448 239 (.n 447 238 .l .l) .l) (.n 451 242 (.n 450 241 .l .l) .l)) (.n 455 245 (.n 454 246 (.n 453 244 .l .l) .l) (.n 457 272 (.n 456 271 .l .l) .l))))))))
  tag := (.n 343 3 (.n 332 7 (.n 330 6 (.n 9 1 .l .l) .l) (.n 341 2 .l .l)) (.n 350 5 (.n 346 4 .l .l) (.n 398 8 .l .l)))
  untag := (.n 5 350 (.n 3 343 (.n 2 341 (.n 1 9 .l .l) .l) (.n 4 346 .l .l)) (.n 7 332 (.n 6 330 .l .l) (.n 8 398 .l .l)))
  rows := [("Replace", [(5, 24)])]
  gl := (.n 5 (.elt [.bad] 0) (.n 4 (.elt [.bad] 0) (.n 1 (.elt [.int .u64 1, .int .u64 10, .int .u64 100, .int .u64 1000, .int .u64 10000, .int .u64 100000, .int .u64 1000000, .int .u64 10000000, .int .u64 100000000, .int .u64 1000000000, .int .u64 10000000000, .int .u64 100000000000, .int .u64 1000000000000, .int .u64 10000000000000, .int .u64 100000000000000, .int .u64 1000000000000000, .int .u64 10000000000000000, .int .u64 100000000000000000, .int .u64 1000000000000000000, .int .u64 10000000000000000000] 0) .l .l) .l) (.n 7 (.elt [.int .u8 0, .int .u8 1, .int .u8 56, .int .u8 2, .int .u8 57, .int .u8 49, .int .u8 28, .int .u8 3, .int .u8 61, .int .u8 58, .int .u8 42, .int .u8 50, .int .u8 38, .int .u8 29, .int .u8 17, .int .u8 4, .int .u8 62, .int .u8 47, .int .u8 59, .int .u8 36, .int .u8 45, .int .u8 43, .int .u8 51, .int .u8 22, .int .u8 53, .int .u8 39, .int .u8 33, .int .u8 30, .int .u8 24, .int .u8 18, .int .u8 12, .int .u8 5, .int .u8 63, .int .u8 55, .int .u8 48, .int .u8 27, .int .u8 60, .int .u8 41, .int .u8 37, .int .u8 16, .int .u8 46, .int .u8 35, .int .u8 44, .int .u8 21, .int .u8 52, .int .u8 32, .int .u8 23, .int .u8 11, .int .u8 54, .int .u8 26, .int .u8 40, .int .u8 15, .int .u8 34, .int .u8 20, .int .u8 31, .int .u8 10, .int .u8 25, .int .u8 14, .int .u8 19, .int .u8 9, .int .u8 13, .int .u8 8, .int .u8 7, .int .u8 6] 0) (.n 6 (.elt [.int .u8 0, .int .u8 1, .int .u8 28, .int .u8 2, .int .u8 29, .int .u8 14, .int .u8 24, .int .u8 3, .int .u8 30, .int .u8 22, .int .u8 20, .int .u8 15, .int .u8 25, .int .u8 17, .int .u8 4, .int .u8 8, .int .u8 31, .int .u8 27, .int .u8 13, .int .u8 23, .int .u8 21, .int .u8 19, .int .u8 16, .int .u8 7, .int .u8 26, .int .u8 12, .int .u8 18, .int .u8 6, .int .u8 11, .int .u8 5, .int .u8 10, .int .u8 9] 0) .l .l) .l))
  ifs := [330]
theorem row0 : RowOk Tryz.prog seat.untag seat.fid "Replace" (5, 24) := ⟨350, 476, by kernel_rfl, by kernel_rfl, fun v w => by kernel_rfl⟩
theorem tableOk : TableOk Tryz.prog seat.untag seat.fid seat.rows := ⟨⟨row0, trivial⟩, trivial⟩
theorem idOk : seat.id.All fun f i => seat.fid.get i = some f := back_of (by kernel_rfl)
theorem tagOk : seat.tag.All fun t g => seat.untag.get g = some t := back_of (by kernel_rfl)
theorem u8Ok : u8ok Tryz.prog = true := by kernel_rfl
theorem bOk : bldOk Tryz.prog 125 = true := by kernel_rfl
theorem seatOk : SeatOk Tryz.prog seat 125 := ⟨idOk, tagOk, ⟨rfl, ⟨rfl, ⟨rfl, trivial, trivial⟩, trivial⟩, ⟨rfl, ⟨rfl, trivial, trivial⟩, trivial⟩⟩, tableOk, u8Ok, bOk⟩
noncomputable def ctx : Ctx := ctxOf Tryz.prog seat 125 seatOk
end Go.Proofs.YtibjieaohbnpgaaGreatDoor.Ae
namespace Go.Proofs.YtibjieaohbnpgaaGreatDoor.Ae
open Go Go.AE Go.AE.Fns Go.Proofs.Tryz
set_option maxRecDepth 100000
noncomputable abbrev ST := seat.ties
theorem c1 : lowFunc prog ST f427 = some F1 := by kernel_rfl
theorem c2 : lowFunc prog ST f405 = some F2 := by kernel_rfl
theorem c3 : lowFunc prog ST f93 = some F3 := by kernel_rfl
theorem c4 : lowFunc prog ST f94 = some F4 := by kernel_rfl
theorem c5 : lowFunc prog ST f165 = some F5 := by kernel_rfl
theorem c6 : lowFunc prog ST f155 = some F6 := by kernel_rfl
theorem c7 : lowFunc prog ST f49 = some F7 := by kernel_rfl
theorem c8 : lowFunc prog ST f167 = some F8 := by kernel_rfl
theorem c9 : lowFunc prog ST f213 = some F9 := by kernel_rfl
theorem c10 : lowFunc prog ST f90 = some F10 := by kernel_rfl
theorem c11 : lowFunc prog ST f161 = some F11 := by kernel_rfl
theorem c12 : lowFunc prog ST f166 = some F12 := by kernel_rfl
theorem c13 : lowFunc prog ST f292 = some F13 := by kernel_rfl
theorem c14 : lowFunc prog ST f293 = some F14 := by kernel_rfl
theorem c16 : lowFunc prog ST f56 = some F16 := by kernel_rfl
theorem c21 : lowFunc prog ST f151 = some F21 := by kernel_rfl
theorem c22 : lowFunc prog ST f256 = some F22 := by kernel_rfl
theorem c23 : lowFunc prog ST f207 = some F23 := by kernel_rfl
theorem c24 : lowFunc prog ST f476 = some F24 := by kernel_rfl
theorem c25 : lowFunc prog ST f278 = some F25 := by kernel_rfl
theorem c26 : lowFunc prog ST f279 = some F26 := by kernel_rfl
theorem c27 : lowFunc prog ST f206 = some F27 := by kernel_rfl
theorem c29 : lowFunc prog ST f254 = some F29 := by kernel_rfl
theorem c30 : lowFunc prog ST f280 = some F30 := by kernel_rfl
theorem c31 : lowFunc prog ST f334 = some F31 := by kernel_rfl
theorem c32 : lowFunc prog ST f304 = some F32 := by kernel_rfl
theorem c33 : lowFunc prog ST f332 = some F33 := by kernel_rfl
theorem c34 : lowFunc prog ST f333 = some F34 := by kernel_rfl
theorem c35 : lowFunc prog ST f336 = some F35 := by kernel_rfl
theorem c36 : lowFunc prog ST f335 = some F36 := by kernel_rfl
theorem c37 : lowFunc prog ST f381 = some F37 := by kernel_rfl
theorem c38 : lowFunc prog ST f339 = some F38 := by kernel_rfl
theorem c39 : lowFunc prog ST f302 = some F39 := by kernel_rfl
theorem c40 : lowFunc prog ST f64 = some F40 := by kernel_rfl
theorem c41 : lowFunc prog ST f110 = some F41 := by kernel_rfl
theorem c42 : lowFunc prog ST f180 = some F42 := by kernel_rfl
theorem c43 : lowFunc prog ST f111 = some F43 := by kernel_rfl
theorem c44 : lowFunc prog ST f109 = some F44 := by kernel_rfl
theorem c45 : lowFunc prog ST f108 = some F45 := by kernel_rfl
theorem c48 : lowFunc prog ST f34 = some F48 := by kernel_rfl
theorem c49 : lowFunc prog ST f61 = some F49 := by kernel_rfl
theorem c50 : lowFunc prog ST f164 = some F50 := by kernel_rfl
theorem c52 : lowFunc prog ST f62 = some F52 := by kernel_rfl
theorem c53 : lowFunc prog ST f106 = some F53 := by kernel_rfl
theorem c54 : lowFunc prog ST f212 = some F54 := by kernel_rfl
theorem c55 : lowFunc prog ST f299 = some F55 := by kernel_rfl
theorem c56 : lowFunc prog ST f258 = some F56 := by kernel_rfl
theorem c57 : lowFunc prog ST f330 = some F57 := by kernel_rfl
theorem c58 : lowFunc prog ST f338 = some F58 := by kernel_rfl
theorem c59 : lowFunc prog ST f384 = some F59 := by kernel_rfl
theorem c60 : lowFunc prog ST f301 = some F60 := by kernel_rfl
theorem c61 : lowFunc prog ST f284 = some F61 := by kernel_rfl
theorem c62 : lowFunc prog ST f285 = some F62 := by kernel_rfl
theorem c63 : lowFunc prog ST f307 = some F63 := by kernel_rfl
theorem c64 : lowFunc prog ST f373 = some F64 := by kernel_rfl
theorem c65 : lowFunc prog ST f329 = some F65 := by kernel_rfl
theorem c66 : lowFunc prog ST f378 = some F66 := by kernel_rfl
theorem c67 : lowFunc prog ST f375 = some F67 := by kernel_rfl
theorem c68 : lowFunc prog ST f374 = some F68 := by kernel_rfl
theorem c69 : lowFunc prog ST f426 = some F69 := by kernel_rfl
theorem c71 : lowFunc prog ST f26 = some F71 := by kernel_rfl
theorem c78 : lowFunc prog ST f33 = some F78 := by kernel_rfl
theorem c79 : lowFunc prog ST f259 = some F79 := by kernel_rfl
theorem c80 : lowFunc prog ST f65 = some F80 := by kernel_rfl
theorem c82 : lowFunc prog ST f74 = some F82 := by kernel_rfl
theorem c84 : lowFunc prog ST f134 = some F84 := by kernel_rfl
theorem c85 : lowFunc prog ST f327 = some F85 := by kernel_rfl
theorem c86 : lowFunc prog ST f356 = some F86 := by kernel_rfl
theorem c87 : lowFunc prog ST f357 = some F87 := by kernel_rfl
theorem c88 : lowFunc prog ST f367 = some F88 := by kernel_rfl
theorem c89 : lowFunc prog ST f380 = some F89 := by kernel_rfl
theorem c90 : lowFunc prog ST f428 = some F90 := by kernel_rfl
theorem c91 : lowFunc prog ST f25 = some F91 := by kernel_rfl
theorem c92 : lowFunc prog ST f51 = some F92 := by kernel_rfl
theorem c93 : lowFunc prog ST f328 = some F93 := by kernel_rfl
theorem c94 : lowFunc prog ST f386 = some F94 := by kernel_rfl
theorem c95 : lowFunc prog ST f414 = some F95 := by kernel_rfl
theorem c96 : lowFunc prog ST f439 = some F96 := by kernel_rfl
theorem c97 : lowFunc prog ST f371 = some F97 := by kernel_rfl
theorem c98 : lowFunc prog ST f404 = some F98 := by kernel_rfl
theorem c99 : lowFunc prog ST f419 = some F99 := by kernel_rfl
theorem c100 : lowFunc prog ST f437 = some F100 := by kernel_rfl
theorem c101 : lowFunc prog ST f358 = some F101 := by kernel_rfl
theorem c102 : lowFunc prog ST f355 = some F102 := by kernel_rfl
theorem c103 : lowFunc prog ST f366 = some F103 := by kernel_rfl
theorem c104 : lowFunc prog ST f359 = some F104 := by kernel_rfl
theorem c105 : lowFunc prog ST f368 = some F105 := by kernel_rfl
theorem c106 : lowFunc prog ST f362 = some F106 := by kernel_rfl
theorem c107 : lowFunc prog ST f354 = some F107 := by kernel_rfl
theorem c108 : lowFunc prog ST f365 = some F108 := by kernel_rfl
theorem c109 : lowFunc prog ST f399 = some F109 := by kernel_rfl
theorem c110 : lowFunc prog ST f402 = some F110 := by kernel_rfl
theorem c111 : lowFunc prog ST f400 = some F111 := by kernel_rfl
theorem c112 : lowFunc prog ST f398 = some F112 := by kernel_rfl
theorem c113 : lowFunc prog ST f401 = some F113 := by kernel_rfl
theorem c114 : lowFunc prog ST f48 = some F114 := by kernel_rfl
theorem c115 : lowFunc prog ST f24 = some F115 := by kernel_rfl
theorem c116 : lowFunc prog ST f32 = some F116 := by kernel_rfl
theorem c117 : lowFunc prog ST f208 = some F117 := by kernel_rfl
theorem c118 : lowFunc prog ST f88 = some F118 := by kernel_rfl
theorem c119 : lowFunc prog ST f149 = some F119 := by kernel_rfl
theorem c120 : lowFunc prog ST f163 = some F120 := by kernel_rfl
theorem c121 : lowFunc prog ST f160 = some F121 := by kernel_rfl
theorem c122 : lowFunc prog ST f144 = some F122 := by kernel_rfl
theorem c123 : lowFunc prog ST f89 = some F123 := by kernel_rfl
theorem c124 : lowFunc prog ST f85 = some F124 := by kernel_rfl
theorem c125 : lowFunc prog ST f141 = some F125 := by kernel_rfl
theorem c126 : lowFunc prog ST f83 = some F126 := by kernel_rfl
theorem c127 : lowFunc prog ST f138 = some F127 := by kernel_rfl
theorem c128 : lowFunc prog ST f84 = some F128 := by kernel_rfl
theorem c129 : lowFunc prog ST f86 = some F129 := by kernel_rfl
theorem c130 : lowFunc prog ST f82 = some F130 := by kernel_rfl
theorem c131 : lowFunc prog ST f152 = some F131 := by kernel_rfl
theorem c132 : lowFunc prog ST f145 = some F132 := by kernel_rfl
theorem c133 : lowFunc prog ST f205 = some F133 := by kernel_rfl
theorem c134 : lowFunc prog ST f204 = some F134 := by kernel_rfl
theorem c135 : lowFunc prog ST f148 = some F135 := by kernel_rfl
theorem c136 : lowFunc prog ST f203 = some F136 := by kernel_rfl
theorem c137 : lowFunc prog ST f253 = some F137 := by kernel_rfl
theorem c138 : lowFunc prog ST f275 = some F138 := by kernel_rfl
theorem x140 : ExtFn prog 171 Extern.BytealgCount.count := ⟨f171, func171, ne_of_beq_false (by kernel_rfl), by kernel_rfl, by kernel_rfl, by kernel_rfl⟩
theorem x141 : ExtFn prog 248 Extern.BytealgIndexByte.indexByte := ⟨f248, func248, ne_of_beq_false (by kernel_rfl), by kernel_rfl, by kernel_rfl, by kernel_rfl⟩
theorem c142 : lowFunc prog ST f209 = some F142 := by kernel_rfl
theorem x144 : ExtFn prog 320 (Extern.Race.marked .acquire) := ⟨f320, func320, ne_of_beq_false (by kernel_rfl), by kernel_rfl, by kernel_rfl, by kernel_rfl⟩
theorem x145 : ExtFn prog 317 (fun _ => do mark .disable; pure Extern.Race.none_) := ⟨f317, func317, ne_of_beq_false (by kernel_rfl), by kernel_rfl, by kernel_rfl, by kernel_rfl⟩
theorem x146 : ExtFn prog 319 (fun _ => do mark .enable; pure Extern.Race.none_) := ⟨f319, func319, ne_of_beq_false (by kernel_rfl), by kernel_rfl, by kernel_rfl, by kernel_rfl⟩
theorem x147 : ExtFn prog 322 (Extern.Race.marked .releaseMerge) := ⟨f322, func322, ne_of_beq_false (by kernel_rfl), by kernel_rfl, by kernel_rfl, by kernel_rfl⟩
theorem c148 : lowFunc prog ST f146 = some F148 := by kernel_rfl
theorem c151 : lowFunc prog ST f96 = some F151 := by kernel_rfl
theorem c153 : lowFunc prog ST f172 = some F153 := by kernel_rfl
theorem c154 : lowFunc prog ST f199 = some F154 := by kernel_rfl
theorem c155 : lowFunc prog ST f372 = some F155 := by kernel_rfl
theorem c156 : lowFunc prog ST f383 = some F156 := by kernel_rfl
theorem c157 : lowFunc prog ST f303 = some F157 := by kernel_rfl
theorem c158 : lowFunc prog ST f179 = some F158 := by kernel_rfl
theorem c159 : lowFunc prog ST f306 = some F159 := by kernel_rfl
theorem c161 : lowFunc prog ST f385 = some F161 := by kernel_rfl
theorem c162 : lowFunc prog ST f379 = some F162 := by kernel_rfl
theorem c163 : lowFunc prog ST f60 = some F163 := by kernel_rfl
theorem c164 : lowFunc prog ST f413 = some F164 := by kernel_rfl
theorem c165 : lowFunc prog ST f433 = some F165 := by kernel_rfl
theorem c166 : lowFunc prog ST f440 = some F166 := by kernel_rfl
theorem c167 : lowFunc prog ST f403 = some F167 := by kernel_rfl
theorem c168 : lowFunc prog ST f417 = some F168 := by kernel_rfl
theorem c169 : lowFunc prog ST f436 = some F169 := by kernel_rfl
theorem c170 : lowFunc prog ST f337 = some F170 := by kernel_rfl
theorem c171 : lowFunc prog ST f223 = some F171 := by kernel_rfl
theorem c172 : lowFunc prog ST f341 = some F172 := by kernel_rfl
theorem c174 : lowFunc prog ST f418 = some F174 := by kernel_rfl
theorem c175 : lowFunc prog ST f300 = some F175 := by kernel_rfl
theorem c176 : lowFunc prog ST f104 = some F176 := by kernel_rfl
theorem c177 : lowFunc prog ST f407 = some F177 := by kernel_rfl
theorem c178 : lowFunc prog ST f442 = some F178 := by kernel_rfl
theorem c179 : lowFunc prog ST f430 = some F179 := by kernel_rfl
theorem c180 : lowFunc prog ST f105 = some F180 := by kernel_rfl
theorem c181 : lowFunc prog ST f98 = some F181 := by kernel_rfl
theorem c182 : lowFunc prog ST f87 = some F182 := by kernel_rfl
theorem c185 : lowFunc prog ST f52 = some F185 := by kernel_rfl
theorem c187 : lowFunc prog ST f99 = some F187 := by kernel_rfl
theorem c188 : lowFunc prog ST f175 = some F188 := by kernel_rfl
theorem c189 : lowFunc prog ST f140 = some F189 := by kernel_rfl
theorem c190 : lowFunc prog ST f63 = some F190 := by kernel_rfl
theorem c191 : lowFunc prog ST f198 = some F191 := by kernel_rfl
theorem c192 : lowFunc prog ST f29 = some F192 := by kernel_rfl
theorem c193 : lowFunc prog ST f162 = some F193 := by kernel_rfl
theorem c194 : lowFunc prog ST f150 = some F194 := by kernel_rfl
theorem c195 : lowFunc prog ST f249 = some F195 := by kernel_rfl
theorem c196 : lowFunc prog ST f200 = some F196 := by kernel_rfl
theorem c197 : lowFunc prog ST f28 = some F197 := by kernel_rfl
theorem c198 : lowFunc prog ST f147 = some F198 := by kernel_rfl
theorem c199 : lowFunc prog ST f202 = some F199 := by kernel_rfl
theorem c200 : lowFunc prog ST f201 = some F200 := by kernel_rfl
theorem c201 : lowFunc prog ST f53 = some F201 := by kernel_rfl
theorem c202 : lowFunc prog ST f107 = some F202 := by kernel_rfl
theorem c203 : lowFunc prog ST f250 = some F203 := by kernel_rfl
theorem c204 : lowFunc prog ST f218 = some F204 := by kernel_rfl
theorem x205 : ExtFn prog 323 (Extern.Atomic.update (Op.intArith .add) .i32 true) := ⟨f323, func323, ne_of_beq_false (by kernel_rfl), by kernel_rfl, by kernel_rfl, by kernel_rfl⟩
theorem x206 : ExtFn prog 318 (Extern.Atomic.casT (.int .i32)) := ⟨f318, func318, ne_of_beq_false (by kernel_rfl), by kernel_rfl, by kernel_rfl, by kernel_rfl⟩
theorem x207 : ExtFn prog 277 (Extern.Atomic.loadT (.int .u32)) := ⟨f277, func277, ne_of_beq_false (by kernel_rfl), by kernel_rfl, by kernel_rfl, by kernel_rfl⟩
theorem x208 : ExtFn prog 294 Extern.Atomic.storeT := ⟨f294, func294, ne_of_beq_false (by kernel_rfl), by kernel_rfl, by kernel_rfl, by kernel_rfl⟩
theorem c209 : lowFunc prog ST f295 = some F209 := by kernel_rfl
theorem c210 : lowFunc prog ST f252 = some F210 := by kernel_rfl
theorem c211 : lowFunc prog ST f270 = some F211 := by kernel_rfl
theorem c212 : lowFunc prog ST f170 = some F212 := by kernel_rfl
theorem c213 : lowFunc prog ST f251 = some F213 := by kernel_rfl
theorem c228 : lowFunc prog ST f220 = some F228 := by kernel_rfl
theorem c236 : lowFunc prog ST f13 = some F236 := by kernel_rfl
theorem c264 : lowFunc prog ST f219 = some F264 := by kernel_rfl
theorem c380 : lowFunc prog ST f5 = some F380 := by kernel_rfl
theorem c381 : lowFunc prog ST f18 = some F381 := by kernel_rfl
theorem c382 : lowFunc prog ST f19 = some F382 := by kernel_rfl
theorem c389 : lowFunc prog ST f39 = some F389 := by kernel_rfl
theorem c390 : lowFunc prog ST f40 = some F390 := by kernel_rfl
theorem c391 : lowFunc prog ST f41 = some F391 := by kernel_rfl
theorem c392 : lowFunc prog ST f42 = some F392 := by kernel_rfl
theorem c393 : lowFunc prog ST f43 = some F393 := by kernel_rfl
theorem c394 : lowFunc prog ST f44 = some F394 := by kernel_rfl
theorem c395 : lowFunc prog ST f46 = some F395 := by kernel_rfl
theorem c396 : lowFunc prog ST f45 = some F396 := by kernel_rfl
theorem c398 : lowFunc prog ST f70 = some F398 := by kernel_rfl
theorem c399 : lowFunc prog ST f71 = some F399 := by kernel_rfl
theorem c400 : lowFunc prog ST f72 = some F400 := by kernel_rfl
theorem c401 : lowFunc prog ST f73 = some F401 := by kernel_rfl
theorem c402 : lowFunc prog ST f75 = some F402 := by kernel_rfl
theorem c403 : lowFunc prog ST f76 = some F403 := by kernel_rfl
theorem c404 : lowFunc prog ST f78 = some F404 := by kernel_rfl
theorem c405 : lowFunc prog ST f77 = some F405 := by kernel_rfl
theorem c406 : lowFunc prog ST f79 = some F406 := by kernel_rfl
theorem c407 : lowFunc prog ST f80 = some F407 := by kernel_rfl
theorem c408 : lowFunc prog ST f81 = some F408 := by kernel_rfl
theorem c409 : lowFunc prog ST f118 = some F409 := by kernel_rfl
theorem c410 : lowFunc prog ST f120 = some F410 := by kernel_rfl
theorem c411 : lowFunc prog ST f119 = some F411 := by kernel_rfl
theorem c412 : lowFunc prog ST f128 = some F412 := by kernel_rfl
theorem c413 : lowFunc prog ST f129 = some F413 := by kernel_rfl
theorem c414 : lowFunc prog ST f130 = some F414 := by kernel_rfl
theorem c415 : lowFunc prog ST f132 = some F415 := by kernel_rfl
theorem c416 : lowFunc prog ST f131 = some F416 := by kernel_rfl
theorem c417 : lowFunc prog ST f136 = some F417 := by kernel_rfl
theorem c418 : lowFunc prog ST f135 = some F418 := by kernel_rfl
theorem c419 : lowFunc prog ST f137 = some F419 := by kernel_rfl
theorem c420 : lowFunc prog ST f187 = some F420 := by kernel_rfl
theorem c421 : lowFunc prog ST f121 = some F421 := by kernel_rfl
theorem c422 : lowFunc prog ST f122 = some F422 := by kernel_rfl
theorem c423 : lowFunc prog ST f123 = some F423 := by kernel_rfl
theorem c424 : lowFunc prog ST f124 = some F424 := by kernel_rfl
theorem c425 : lowFunc prog ST f125 = some F425 := by kernel_rfl
theorem c426 : lowFunc prog ST f127 = some F426 := by kernel_rfl
theorem c427 : lowFunc prog ST f126 = some F427 := by kernel_rfl
theorem c428 : lowFunc prog ST f188 = some F428 := by kernel_rfl
theorem c429 : lowFunc prog ST f197 = some F429 := by kernel_rfl
theorem c430 : lowFunc prog ST f133 = some F430 := by kernel_rfl
theorem c431 : lowFunc prog ST f193 = some F431 := by kernel_rfl
theorem c432 : lowFunc prog ST f231 = some F432 := by kernel_rfl
theorem c433 : lowFunc prog ST f230 = some F433 := by kernel_rfl
theorem c435 : lowFunc prog ST f232 = some F435 := by kernel_rfl
theorem c438 : lowFunc prog ST f190 = some F438 := by kernel_rfl
theorem c439 : lowFunc prog ST f189 = some F439 := by kernel_rfl
theorem c440 : lowFunc prog ST f191 = some F440 := by kernel_rfl
theorem c441 : lowFunc prog ST f192 = some F441 := by kernel_rfl
theorem c442 : lowFunc prog ST f194 = some F442 := by kernel_rfl
theorem c444 : lowFunc prog ST f195 = some F444 := by kernel_rfl
theorem c445 : lowFunc prog ST f236 = some F445 := by kernel_rfl
theorem c446 : lowFunc prog ST f237 = some F446 := by kernel_rfl
theorem c447 : lowFunc prog ST f238 = some F447 := by kernel_rfl
theorem c448 : lowFunc prog ST f239 = some F448 := by kernel_rfl
theorem c449 : lowFunc prog ST f240 = some F449 := by kernel_rfl
theorem c450 : lowFunc prog ST f241 = some F450 := by kernel_rfl
theorem c453 : lowFunc prog ST f244 = some F453 := by kernel_rfl
theorem c454 : lowFunc prog ST f246 = some F454 := by kernel_rfl
theorem c455 : lowFunc prog ST f245 = some F455 := by kernel_rfl
theorem t1 (keep : Nat → Bool) : Tied ctx keep 1 F1 := .inl ⟨f427, func427, by kernel_rfl, c1, fun e h => by cases h⟩
theorem t2 (keep : Nat → Bool) : Tied ctx keep 2 F2 := .inl ⟨f405, func405, by kernel_rfl, c2, fun e h => by cases h⟩
theorem t3 (keep : Nat → Bool) : Tied ctx keep 3 F3 := .inl ⟨f93, func93, by kernel_rfl, c3, fun e h => by cases h⟩
theorem t4 (keep : Nat → Bool) : Tied ctx keep 4 F4 := .inl ⟨f94, func94, by kernel_rfl, c4, fun e h => by cases h⟩
theorem t5 (keep : Nat → Bool) : Tied ctx keep 5 F5 := .inl ⟨f165, func165, by kernel_rfl, c5, fun e h => by cases h⟩
theorem t6 (keep : Nat → Bool) : Tied ctx keep 6 F6 := .inl ⟨f155, func155, by kernel_rfl, c6, fun e h => by cases h⟩
theorem t7 (keep : Nat → Bool) : Tied ctx keep 7 F7 := .inl ⟨f49, func49, by kernel_rfl, c7, fun e h => by cases h⟩
theorem t8 (keep : Nat → Bool) : Tied ctx keep 8 F8 := .inl ⟨f167, func167, by kernel_rfl, c8, fun e h => by cases h⟩
theorem t9 (keep : Nat → Bool) : Tied ctx keep 9 F9 := .inl ⟨f213, func213, by kernel_rfl, c9, fun e h => by cases h⟩
theorem t10 (keep : Nat → Bool) : Tied ctx keep 10 F10 := .inl ⟨f90, func90, by kernel_rfl, c10, fun e h => by cases h⟩
theorem t11 (keep : Nat → Bool) : Tied ctx keep 11 F11 := .inl ⟨f161, func161, by kernel_rfl, c11, fun e h => by cases h⟩
theorem t12 (keep : Nat → Bool) : Tied ctx keep 12 F12 := .inl ⟨f166, func166, by kernel_rfl, c12, fun e h => by cases h⟩
theorem t13 (keep : Nat → Bool) : Tied ctx keep 13 F13 := .inl ⟨f292, func292, by kernel_rfl, c13, fun e h => by cases h⟩
theorem t14 (keep : Nat → Bool) : Tied ctx keep 14 F14 := .inl ⟨f293, func293, by kernel_rfl, c14, fun e h => by cases h⟩
theorem t16 (keep : Nat → Bool) : Tied ctx keep 16 F16 := .inl ⟨f56, func56, by kernel_rfl, c16, fun e h => by cases h⟩
theorem t21 (keep : Nat → Bool) : Tied ctx keep 21 F21 := .inl ⟨f151, func151, by kernel_rfl, c21, fun e h => by cases h⟩
theorem t22 (keep : Nat → Bool) : Tied ctx keep 22 F22 := .inl ⟨f256, func256, by kernel_rfl, c22, fun e h => by cases h⟩
theorem t23 (keep : Nat → Bool) : Tied ctx keep 23 F23 := .inl ⟨f207, func207, by kernel_rfl, c23, fun e h => by cases h⟩
theorem t24 (keep : Nat → Bool) : Tied ctx keep 24 F24 := .inl ⟨f476, func476, by kernel_rfl, c24, fun e h => by cases h⟩
theorem t25 (keep : Nat → Bool) : Tied ctx keep 25 F25 := .inl ⟨f278, func278, by kernel_rfl, c25, fun e h => by cases h⟩
theorem t26 (keep : Nat → Bool) : Tied ctx keep 26 F26 := .inl ⟨f279, func279, by kernel_rfl, c26, fun e h => by cases h⟩
theorem t27 (keep : Nat → Bool) : Tied ctx keep 27 F27 := .inl ⟨f206, func206, by kernel_rfl, c27, fun e h => by cases h⟩
theorem t29 (keep : Nat → Bool) : Tied ctx keep 29 F29 := .inl ⟨f254, func254, by kernel_rfl, c29, fun e h => by cases h⟩
theorem t30 (keep : Nat → Bool) : Tied ctx keep 30 F30 := .inl ⟨f280, func280, by kernel_rfl, c30, fun e h => by cases h⟩
theorem t31 (keep : Nat → Bool) : Tied ctx keep 31 F31 := .inl ⟨f334, func334, by kernel_rfl, c31, fun e h => by cases h⟩
theorem t32 (keep : Nat → Bool) : Tied ctx keep 32 F32 := .inl ⟨f304, func304, by kernel_rfl, c32, fun e h => by cases h⟩
theorem t33 (keep : Nat → Bool) : Tied ctx keep 33 F33 := .inl ⟨f332, func332, by kernel_rfl, c33, fun e h => by cases h⟩
theorem t34 (keep : Nat → Bool) : Tied ctx keep 34 F34 := .inl ⟨f333, func333, by kernel_rfl, c34, fun e h => by cases h⟩
theorem t35 (keep : Nat → Bool) : Tied ctx keep 35 F35 := .inl ⟨f336, func336, by kernel_rfl, c35, fun e h => by cases h⟩
theorem t36 (keep : Nat → Bool) : Tied ctx keep 36 F36 := .inl ⟨f335, func335, by kernel_rfl, c36, fun e h => by cases h⟩
theorem t37 (keep : Nat → Bool) : Tied ctx keep 37 F37 := .inl ⟨f381, func381, by kernel_rfl, c37, fun e h => by cases h⟩
theorem t38 (keep : Nat → Bool) : Tied ctx keep 38 F38 := .inl ⟨f339, func339, by kernel_rfl, c38, fun e h => by cases h⟩
theorem t39 (keep : Nat → Bool) : Tied ctx keep 39 F39 := .inl ⟨f302, func302, by kernel_rfl, c39, fun e h => by cases h⟩
theorem t40 (keep : Nat → Bool) : Tied ctx keep 40 F40 := .inl ⟨f64, func64, by kernel_rfl, c40, fun e h => by cases h⟩
theorem t41 (keep : Nat → Bool) : Tied ctx keep 41 F41 := .inl ⟨f110, func110, by kernel_rfl, c41, fun e h => by cases h⟩
theorem t42 (keep : Nat → Bool) : Tied ctx keep 42 F42 := .inl ⟨f180, func180, by kernel_rfl, c42, fun e h => by cases h⟩
theorem t43 (keep : Nat → Bool) : Tied ctx keep 43 F43 := .inl ⟨f111, func111, by kernel_rfl, c43, fun e h => by cases h⟩
theorem t44 (keep : Nat → Bool) : Tied ctx keep 44 F44 := .inl ⟨f109, func109, by kernel_rfl, c44, fun e h => by cases h⟩
theorem t45 (keep : Nat → Bool) : Tied ctx keep 45 F45 := .inl ⟨f108, func108, by kernel_rfl, c45, fun e h => by cases h⟩
theorem t48 (keep : Nat → Bool) : Tied ctx keep 48 F48 := .inl ⟨f34, func34, by kernel_rfl, c48, fun e h => by cases h⟩
theorem t49 (keep : Nat → Bool) : Tied ctx keep 49 F49 := .inl ⟨f61, func61, by kernel_rfl, c49, fun e h => by cases h⟩
theorem t50 (keep : Nat → Bool) : Tied ctx keep 50 F50 := .inl ⟨f164, func164, by kernel_rfl, c50, fun e h => by cases h⟩
theorem t52 (keep : Nat → Bool) : Tied ctx keep 52 F52 := .inl ⟨f62, func62, by kernel_rfl, c52, fun e h => by cases h⟩
theorem t53 (keep : Nat → Bool) : Tied ctx keep 53 F53 := .inl ⟨f106, func106, by kernel_rfl, c53, fun e h => by cases h⟩
theorem t54 (keep : Nat → Bool) : Tied ctx keep 54 F54 := .inl ⟨f212, func212, by kernel_rfl, c54, fun e h => by cases h⟩
theorem t55 (keep : Nat → Bool) : Tied ctx keep 55 F55 := .inl ⟨f299, func299, by kernel_rfl, c55, fun e h => by cases h⟩
theorem t56 (keep : Nat → Bool) : Tied ctx keep 56 F56 := .inl ⟨f258, func258, by kernel_rfl, c56, fun e h => by cases h⟩
theorem t57 (keep : Nat → Bool) : Tied ctx keep 57 F57 := .inl ⟨f330, func330, by kernel_rfl, c57, fun e h => by cases h⟩
theorem t58 (keep : Nat → Bool) : Tied ctx keep 58 F58 := .inl ⟨f338, func338, by kernel_rfl, c58, fun e h => by cases h⟩
theorem t59 (keep : Nat → Bool) : Tied ctx keep 59 F59 := .inl ⟨f384, func384, by kernel_rfl, c59, fun e h => by cases h⟩
theorem t60 (keep : Nat → Bool) : Tied ctx keep 60 F60 := .inl ⟨f301, func301, by kernel_rfl, c60, fun e h => by cases h⟩
theorem t61 (keep : Nat → Bool) : Tied ctx keep 61 F61 := .inl ⟨f284, func284, by kernel_rfl, c61, fun e h => by cases h⟩
theorem t62 (keep : Nat → Bool) : Tied ctx keep 62 F62 := .inl ⟨f285, func285, by kernel_rfl, c62, fun e h => by cases h⟩
theorem t63 (keep : Nat → Bool) : Tied ctx keep 63 F63 := .inl ⟨f307, func307, by kernel_rfl, c63, fun e h => by cases h⟩
theorem t64 (keep : Nat → Bool) : Tied ctx keep 64 F64 := .inl ⟨f373, func373, by kernel_rfl, c64, fun e h => by cases h⟩
theorem t65 (keep : Nat → Bool) : Tied ctx keep 65 F65 := .inl ⟨f329, func329, by kernel_rfl, c65, fun e h => by cases h⟩
theorem t66 (keep : Nat → Bool) : Tied ctx keep 66 F66 := .inl ⟨f378, func378, by kernel_rfl, c66, fun e h => by cases h⟩
theorem t67 (keep : Nat → Bool) : Tied ctx keep 67 F67 := .inl ⟨f375, func375, by kernel_rfl, c67, fun e h => by cases h⟩
theorem t68 (keep : Nat → Bool) : Tied ctx keep 68 F68 := .inl ⟨f374, func374, by kernel_rfl, c68, fun e h => by cases h⟩
theorem t69 (keep : Nat → Bool) : Tied ctx keep 69 F69 := .inl ⟨f426, func426, by kernel_rfl, c69, fun e h => by cases h⟩
theorem t71 (keep : Nat → Bool) : Tied ctx keep 71 F71 := .inl ⟨f26, func26, by kernel_rfl, c71, fun e h => by cases h⟩
theorem t78 (keep : Nat → Bool) : Tied ctx keep 78 F78 := .inl ⟨f33, func33, by kernel_rfl, c78, fun e h => by cases h⟩
theorem t79 (keep : Nat → Bool) : Tied ctx keep 79 F79 := .inl ⟨f259, func259, by kernel_rfl, c79, fun e h => by cases h⟩
theorem t80 (keep : Nat → Bool) : Tied ctx keep 80 F80 := .inl ⟨f65, func65, by kernel_rfl, c80, fun e h => by cases h⟩
theorem t82 (keep : Nat → Bool) : Tied ctx keep 82 F82 := .inl ⟨f74, func74, by kernel_rfl, c82, fun e h => by cases h⟩
theorem t84 (keep : Nat → Bool) : Tied ctx keep 84 F84 := .inl ⟨f134, func134, by kernel_rfl, c84, fun e h => by cases h⟩
theorem t85 (keep : Nat → Bool) : Tied ctx keep 85 F85 := .inl ⟨f327, func327, by kernel_rfl, c85, fun e h => by cases h⟩
theorem t86 (keep : Nat → Bool) : Tied ctx keep 86 F86 := .inl ⟨f356, func356, by kernel_rfl, c86, fun e h => by cases h⟩
theorem t87 (keep : Nat → Bool) : Tied ctx keep 87 F87 := .inl ⟨f357, func357, by kernel_rfl, c87, fun e h => by cases h⟩
theorem t88 (keep : Nat → Bool) : Tied ctx keep 88 F88 := .inl ⟨f367, func367, by kernel_rfl, c88, fun e h => by cases h⟩
theorem t89 (keep : Nat → Bool) : Tied ctx keep 89 F89 := .inl ⟨f380, func380, by kernel_rfl, c89, fun e h => by cases h⟩
theorem t90 (keep : Nat → Bool) : Tied ctx keep 90 F90 := .inl ⟨f428, func428, by kernel_rfl, c90, fun e h => by cases h⟩
theorem t91 (keep : Nat → Bool) : Tied ctx keep 91 F91 := .inl ⟨f25, func25, by kernel_rfl, c91, fun e h => by cases h⟩
theorem t92 (keep : Nat → Bool) : Tied ctx keep 92 F92 := .inl ⟨f51, func51, by kernel_rfl, c92, fun e h => by cases h⟩
theorem t93 (keep : Nat → Bool) : Tied ctx keep 93 F93 := .inl ⟨f328, func328, by kernel_rfl, c93, fun e h => by cases h⟩
theorem t94 (keep : Nat → Bool) : Tied ctx keep 94 F94 := .inl ⟨f386, func386, by kernel_rfl, c94, fun e h => by cases h⟩
theorem t95 (keep : Nat → Bool) : Tied ctx keep 95 F95 := .inl ⟨f414, func414, by kernel_rfl, c95, fun e h => by cases h⟩
theorem t96 (keep : Nat → Bool) : Tied ctx keep 96 F96 := .inl ⟨f439, func439, by kernel_rfl, c96, fun e h => by cases h⟩
theorem t97 (keep : Nat → Bool) : Tied ctx keep 97 F97 := .inl ⟨f371, func371, by kernel_rfl, c97, fun e h => by cases h⟩
theorem t98 (keep : Nat → Bool) : Tied ctx keep 98 F98 := .inl ⟨f404, func404, by kernel_rfl, c98, fun e h => by cases h⟩
theorem t99 (keep : Nat → Bool) : Tied ctx keep 99 F99 := .inl ⟨f419, func419, by kernel_rfl, c99, fun e h => by cases h⟩
theorem t100 (keep : Nat → Bool) : Tied ctx keep 100 F100 := .inl ⟨f437, func437, by kernel_rfl, c100, fun e h => by cases h⟩
theorem t101 (keep : Nat → Bool) : Tied ctx keep 101 F101 := .inl ⟨f358, func358, by kernel_rfl, c101, fun e h => by cases h⟩
theorem t102 (keep : Nat → Bool) : Tied ctx keep 102 F102 := .inl ⟨f355, func355, by kernel_rfl, c102, fun e h => by cases h⟩
theorem t103 (keep : Nat → Bool) : Tied ctx keep 103 F103 := .inl ⟨f366, func366, by kernel_rfl, c103, fun e h => by cases h⟩
theorem t104 (keep : Nat → Bool) : Tied ctx keep 104 F104 := .inl ⟨f359, func359, by kernel_rfl, c104, fun e h => by cases h⟩
theorem t105 (keep : Nat → Bool) : Tied ctx keep 105 F105 := .inl ⟨f368, func368, by kernel_rfl, c105, fun e h => by cases h⟩
theorem t106 (keep : Nat → Bool) : Tied ctx keep 106 F106 := .inl ⟨f362, func362, by kernel_rfl, c106, fun e h => by cases h⟩
theorem t107 (keep : Nat → Bool) : Tied ctx keep 107 F107 := .inl ⟨f354, func354, by kernel_rfl, c107, fun e h => by cases h⟩
theorem t108 (keep : Nat → Bool) : Tied ctx keep 108 F108 := .inl ⟨f365, func365, by kernel_rfl, c108, fun e h => by cases h⟩
theorem t109 (keep : Nat → Bool) : Tied ctx keep 109 F109 := .inl ⟨f399, func399, by kernel_rfl, c109, fun e h => by cases h⟩
theorem t110 (keep : Nat → Bool) : Tied ctx keep 110 F110 := .inl ⟨f402, func402, by kernel_rfl, c110, fun e h => by cases h⟩
theorem t111 (keep : Nat → Bool) : Tied ctx keep 111 F111 := .inl ⟨f400, func400, by kernel_rfl, c111, fun e h => by cases h⟩
theorem t112 (keep : Nat → Bool) : Tied ctx keep 112 F112 := .inl ⟨f398, func398, by kernel_rfl, c112, fun e h => by cases h⟩
theorem t113 (keep : Nat → Bool) : Tied ctx keep 113 F113 := .inl ⟨f401, func401, by kernel_rfl, c113, fun e h => by cases h⟩
theorem t114 (keep : Nat → Bool) : Tied ctx keep 114 F114 := .inl ⟨f48, func48, by kernel_rfl, c114, fun e h => by cases h⟩
theorem t115 (keep : Nat → Bool) : Tied ctx keep 115 F115 := .inl ⟨f24, func24, by kernel_rfl, c115, fun e h => by cases h⟩
theorem t116 (keep : Nat → Bool) : Tied ctx keep 116 F116 := .inl ⟨f32, func32, by kernel_rfl, c116, fun e h => by cases h⟩
theorem t117 (keep : Nat → Bool) : Tied ctx keep 117 F117 := .inl ⟨f208, func208, by kernel_rfl, c117, fun e h => by cases h⟩
theorem t118 (keep : Nat → Bool) : Tied ctx keep 118 F118 := .inl ⟨f88, func88, by kernel_rfl, c118, fun e h => by cases h⟩
theorem t119 (keep : Nat → Bool) : Tied ctx keep 119 F119 := .inl ⟨f149, func149, by kernel_rfl, c119, fun e h => by cases h⟩
theorem t120 (keep : Nat → Bool) : Tied ctx keep 120 F120 := .inl ⟨f163, func163, by kernel_rfl, c120, fun e h => by cases h⟩
theorem t121 (keep : Nat → Bool) : Tied ctx keep 121 F121 := .inl ⟨f160, func160, by kernel_rfl, c121, fun e h => by cases h⟩
theorem t122 (keep : Nat → Bool) : Tied ctx keep 122 F122 := .inl ⟨f144, func144, by kernel_rfl, c122, fun e h => by cases h⟩
theorem t123 (keep : Nat → Bool) : Tied ctx keep 123 F123 := .inl ⟨f89, func89, by kernel_rfl, c123, fun e h => by cases h⟩
theorem t124 (keep : Nat → Bool) : Tied ctx keep 124 F124 := .inl ⟨f85, func85, by kernel_rfl, c124, fun e h => by cases h⟩
theorem t125 (keep : Nat → Bool) : Tied ctx keep 125 F125 := .inl ⟨f141, func141, by kernel_rfl, c125, fun e h => by cases h⟩
theorem t126 (keep : Nat → Bool) : Tied ctx keep 126 F126 := .inl ⟨f83, func83, by kernel_rfl, c126, fun e h => by cases h⟩
theorem t127 (keep : Nat → Bool) : Tied ctx keep 127 F127 := .inl ⟨f138, func138, by kernel_rfl, c127, fun e h => by cases h⟩
theorem t128 (keep : Nat → Bool) : Tied ctx keep 128 F128 := .inl ⟨f84, func84, by kernel_rfl, c128, fun e h => by cases h⟩
theorem t129 (keep : Nat → Bool) : Tied ctx keep 129 F129 := .inl ⟨f86, func86, by kernel_rfl, c129, fun e h => by cases h⟩
theorem t130 (keep : Nat → Bool) : Tied ctx keep 130 F130 := .inl ⟨f82, func82, by kernel_rfl, c130, fun e h => by cases h⟩
theorem t131 (keep : Nat → Bool) : Tied ctx keep 131 F131 := .inl ⟨f152, func152, by kernel_rfl, c131, fun e h => by cases h⟩
theorem t132 (keep : Nat → Bool) : Tied ctx keep 132 F132 := .inl ⟨f145, func145, by kernel_rfl, c132, fun e h => by cases h⟩
theorem t133 (keep : Nat → Bool) : Tied ctx keep 133 F133 := .inl ⟨f205, func205, by kernel_rfl, c133, fun e h => by cases h⟩
theorem t134 (keep : Nat → Bool) : Tied ctx keep 134 F134 := .inl ⟨f204, func204, by kernel_rfl, c134, fun e h => by cases h⟩
theorem t135 (keep : Nat → Bool) : Tied ctx keep 135 F135 := .inl ⟨f148, func148, by kernel_rfl, c135, fun e h => by cases h⟩
theorem t136 (keep : Nat → Bool) : Tied ctx keep 136 F136 := .inl ⟨f203, func203, by kernel_rfl, c136, fun e h => by cases h⟩
theorem t137 (keep : Nat → Bool) : Tied ctx keep 137 F137 := .inl ⟨f253, func253, by kernel_rfl, c137, fun e h => by cases h⟩
theorem t138 (keep : Nat → Bool) : Tied ctx keep 138 F138 := .inl ⟨f275, func275, by kernel_rfl, c138, fun e h => by cases h⟩
theorem t140 (keep : Nat → Bool) (h : keep 140 = false) : Tied ctx keep 140 F140 := .inr ⟨_, rfl, h, ext_countString x140⟩
theorem t141 (keep : Nat → Bool) (h : keep 141 = false) : Tied ctx keep 141 F141 := .inr ⟨_, rfl, h, ext_indexByteString x141⟩
theorem t142 (keep : Nat → Bool) : Tied ctx keep 142 F142 := .inl ⟨f209, func209, by kernel_rfl, c142, fun e h => by cases h⟩
theorem t144 (keep : Nat → Bool) (h : keep 144 = false) : Tied ctx keep 144 F144 := .inr ⟨_, rfl, h, ext_mark x144 (fun _ _ => rfl)⟩
theorem t145 (keep : Nat → Bool) (h : keep 145 = false) : Tied ctx keep 145 F145 := .inr ⟨_, rfl, h, ext_nop x145 (fun _ _ => rfl)⟩
theorem t146 (keep : Nat → Bool) (h : keep 146 = false) : Tied ctx keep 146 F146 := .inr ⟨_, rfl, h, ext_nop x146 (fun _ _ => rfl)⟩
theorem t147 (keep : Nat → Bool) (h : keep 147 = false) : Tied ctx keep 147 F147 := .inr ⟨_, rfl, h, ext_mark x147 (fun _ _ => rfl)⟩
theorem t148 (keep : Nat → Bool) : Tied ctx keep 148 F148 := .inl ⟨f146, func146, by kernel_rfl, c148, fun e h => by cases h⟩
theorem t151 (keep : Nat → Bool) : Tied ctx keep 151 F151 := .inl ⟨f96, func96, by kernel_rfl, c151, fun e h => by cases h⟩
theorem t153 (keep : Nat → Bool) : Tied ctx keep 153 F153 := .inl ⟨f172, func172, by kernel_rfl, c153, fun e h => by cases h⟩
theorem t154 (keep : Nat → Bool) : Tied ctx keep 154 F154 := .inl ⟨f199, func199, by kernel_rfl, c154, fun e h => by cases h⟩
theorem t155 (keep : Nat → Bool) : Tied ctx keep 155 F155 := .inl ⟨f372, func372, by kernel_rfl, c155, fun e h => by cases h⟩
theorem t156 (keep : Nat → Bool) : Tied ctx keep 156 F156 := .inl ⟨f383, func383, by kernel_rfl, c156, fun e h => by cases h⟩
theorem t157 (keep : Nat → Bool) : Tied ctx keep 157 F157 := .inl ⟨f303, func303, by kernel_rfl, c157, fun e h => by cases h⟩
theorem t158 (keep : Nat → Bool) : Tied ctx keep 158 F158 := .inl ⟨f179, func179, by kernel_rfl, c158, fun e h => by cases h⟩
theorem t159 (keep : Nat → Bool) : Tied ctx keep 159 F159 := .inl ⟨f306, func306, by kernel_rfl, c159, fun e h => by cases h⟩
theorem t161 (keep : Nat → Bool) : Tied ctx keep 161 F161 := .inl ⟨f385, func385, by kernel_rfl, c161, fun e h => by cases h⟩
theorem t162 (keep : Nat → Bool) : Tied ctx keep 162 F162 := .inl ⟨f379, func379, by kernel_rfl, c162, fun e h => by cases h⟩
theorem t163 (keep : Nat → Bool) : Tied ctx keep 163 F163 := .inl ⟨f60, func60, by kernel_rfl, c163, fun e h => by cases h⟩
theorem t164 (keep : Nat → Bool) : Tied ctx keep 164 F164 := .inl ⟨f413, func413, by kernel_rfl, c164, fun e h => by cases h⟩
theorem t165 (keep : Nat → Bool) : Tied ctx keep 165 F165 := .inl ⟨f433, func433, by kernel_rfl, c165, fun e h => by cases h⟩
theorem t166 (keep : Nat → Bool) : Tied ctx keep 166 F166 := .inl ⟨f440, func440, by kernel_rfl, c166, fun e h => by cases h⟩
theorem t167 (keep : Nat → Bool) : Tied ctx keep 167 F167 := .inl ⟨f403, func403, by kernel_rfl, c167, fun e h => by cases h⟩
theorem t168 (keep : Nat → Bool) : Tied ctx keep 168 F168 := .inl ⟨f417, func417, by kernel_rfl, c168, fun e h => by cases h⟩
theorem t169 (keep : Nat → Bool) : Tied ctx keep 169 F169 := .inl ⟨f436, func436, by kernel_rfl, c169, fun e h => by cases h⟩
theorem t170 (keep : Nat → Bool) : Tied ctx keep 170 F170 := .inl ⟨f337, func337, by kernel_rfl, c170, fun e h => by cases h⟩
theorem t171 (keep : Nat → Bool) : Tied ctx keep 171 F171 := .inl ⟨f223, func223, by kernel_rfl, c171, fun e h => by cases h⟩
theorem t172 (keep : Nat → Bool) : Tied ctx keep 172 F172 := .inl ⟨f341, func341, by kernel_rfl, c172, fun e h => by cases h⟩
theorem t174 (keep : Nat → Bool) : Tied ctx keep 174 F174 := .inl ⟨f418, func418, by kernel_rfl, c174, fun e h => by cases h⟩
theorem t175 (keep : Nat → Bool) : Tied ctx keep 175 F175 := .inl ⟨f300, func300, by kernel_rfl, c175, fun e h => by cases h⟩
theorem t176 (keep : Nat → Bool) : Tied ctx keep 176 F176 := .inl ⟨f104, func104, by kernel_rfl, c176, fun e h => by cases h⟩
theorem t177 (keep : Nat → Bool) : Tied ctx keep 177 F177 := .inl ⟨f407, func407, by kernel_rfl, c177, fun e h => by cases h⟩
theorem t178 (keep : Nat → Bool) : Tied ctx keep 178 F178 := .inl ⟨f442, func442, by kernel_rfl, c178, fun e h => by cases h⟩
theorem t179 (keep : Nat → Bool) : Tied ctx keep 179 F179 := .inl ⟨f430, func430, by kernel_rfl, c179, fun e h => by cases h⟩
theorem t180 (keep : Nat → Bool) : Tied ctx keep 180 F180 := .inl ⟨f105, func105, by kernel_rfl, c180, fun e h => by cases h⟩
theorem t181 (keep : Nat → Bool) : Tied ctx keep 181 F181 := .inl ⟨f98, func98, by kernel_rfl, c181, fun e h => by cases h⟩
theorem t182 (keep : Nat → Bool) : Tied ctx keep 182 F182 := .inl ⟨f87, func87, by kernel_rfl, c182, fun e h => by cases h⟩
theorem t185 (keep : Nat → Bool) : Tied ctx keep 185 F185 := .inl ⟨f52, func52, by kernel_rfl, c185, fun e h => by cases h⟩
theorem t187 (keep : Nat → Bool) : Tied ctx keep 187 F187 := .inl ⟨f99, func99, by kernel_rfl, c187, fun e h => by cases h⟩
theorem t188 (keep : Nat → Bool) : Tied ctx keep 188 F188 := .inl ⟨f175, func175, by kernel_rfl, c188, fun e h => by cases h⟩
theorem t189 (keep : Nat → Bool) : Tied ctx keep 189 F189 := .inl ⟨f140, func140, by kernel_rfl, c189, fun e h => by cases h⟩
theorem t190 (keep : Nat → Bool) : Tied ctx keep 190 F190 := .inl ⟨f63, func63, by kernel_rfl, c190, fun e h => by cases h⟩
theorem t191 (keep : Nat → Bool) : Tied ctx keep 191 F191 := .inl ⟨f198, func198, by kernel_rfl, c191, fun e h => by cases h⟩
theorem t192 (keep : Nat → Bool) : Tied ctx keep 192 F192 := .inl ⟨f29, func29, by kernel_rfl, c192, fun e h => by cases h⟩
theorem t193 (keep : Nat → Bool) : Tied ctx keep 193 F193 := .inl ⟨f162, func162, by kernel_rfl, c193, fun e h => by cases h⟩
theorem t194 (keep : Nat → Bool) : Tied ctx keep 194 F194 := .inl ⟨f150, func150, by kernel_rfl, c194, fun e h => by cases h⟩
theorem t195 (keep : Nat → Bool) : Tied ctx keep 195 F195 := .inl ⟨f249, func249, by kernel_rfl, c195, fun e h => by cases h⟩
theorem t196 (keep : Nat → Bool) : Tied ctx keep 196 F196 := .inl ⟨f200, func200, by kernel_rfl, c196, fun e h => by cases h⟩
theorem t197 (keep : Nat → Bool) : Tied ctx keep 197 F197 := .inl ⟨f28, func28, by kernel_rfl, c197, fun e h => by cases h⟩
theorem t198 (keep : Nat → Bool) : Tied ctx keep 198 F198 := .inl ⟨f147, func147, by kernel_rfl, c198, fun e h => by cases h⟩
theorem t199 (keep : Nat → Bool) : Tied ctx keep 199 F199 := .inl ⟨f202, func202, by kernel_rfl, c199, fun e h => by cases h⟩
theorem t200 (keep : Nat → Bool) : Tied ctx keep 200 F200 := .inl ⟨f201, func201, by kernel_rfl, c200, fun e h => by cases h⟩
theorem t201 (keep : Nat → Bool) : Tied ctx keep 201 F201 := .inl ⟨f53, func53, by kernel_rfl, c201, fun e h => by cases h⟩
theorem t202 (keep : Nat → Bool) : Tied ctx keep 202 F202 := .inl ⟨f107, func107, by kernel_rfl, c202, fun e h => by cases h⟩
theorem t203 (keep : Nat → Bool) : Tied ctx keep 203 F203 := .inl ⟨f250, func250, by kernel_rfl, c203, fun e h => by cases h⟩
theorem t204 (keep : Nat → Bool) : Tied ctx keep 204 F204 := .inl ⟨f218, func218, by kernel_rfl, c204, fun e h => by cases h⟩
theorem t205 (keep : Nat → Bool) (h : keep 205 = false) : Tied ctx keep 205 F205 := .inr ⟨_, rfl, h, ext_add x205⟩
theorem t206 (keep : Nat → Bool) (h : keep 206 = false) : Tied ctx keep 206 F206 := .inr ⟨_, rfl, h, ext_cas x206⟩
theorem t207 (keep : Nat → Bool) (h : keep 207 = false) : Tied ctx keep 207 F207 := .inr ⟨_, rfl, h, ext_load x207⟩
theorem t208 (keep : Nat → Bool) (h : keep 208 = false) : Tied ctx keep 208 F208 := .inr ⟨_, rfl, h, ext_store x208⟩
theorem t209 (keep : Nat → Bool) : Tied ctx keep 209 F209 := .inl ⟨f295, func295, by kernel_rfl, c209, fun e h => by cases h⟩
theorem t210 (keep : Nat → Bool) : Tied ctx keep 210 F210 := .inl ⟨f252, func252, by kernel_rfl, c210, fun e h => by cases h⟩
theorem t211 (keep : Nat → Bool) : Tied ctx keep 211 F211 := .inl ⟨f270, func270, by kernel_rfl, c211, fun e h => by cases h⟩
theorem t212 (keep : Nat → Bool) : Tied ctx keep 212 F212 := .inl ⟨f170, func170, by kernel_rfl, c212, fun e h => by cases h⟩
theorem t213 (keep : Nat → Bool) : Tied ctx keep 213 F213 := .inl ⟨f251, func251, by kernel_rfl, c213, fun e h => by cases h⟩
theorem t228 (keep : Nat → Bool) : Tied ctx keep 228 F228 := .inl ⟨f220, func220, by kernel_rfl, c228, fun e h => by cases h⟩
theorem t236 (keep : Nat → Bool) : Tied ctx keep 236 F236 := .inl ⟨f13, func13, by kernel_rfl, c236, fun e h => by cases h⟩
theorem t264 (keep : Nat → Bool) : Tied ctx keep 264 F264 := .inl ⟨f219, func219, by kernel_rfl, c264, fun e h => by cases h⟩
theorem t380 (keep : Nat → Bool) : Tied ctx keep 380 F380 := .inl ⟨f5, func5, by kernel_rfl, c380, fun e h => by cases h⟩
theorem t381 (keep : Nat → Bool) : Tied ctx keep 381 F381 := .inl ⟨f18, func18, by kernel_rfl, c381, fun e h => by cases h⟩
theorem t382 (keep : Nat → Bool) : Tied ctx keep 382 F382 := .inl ⟨f19, func19, by kernel_rfl, c382, fun e h => by cases h⟩
theorem t389 (keep : Nat → Bool) : Tied ctx keep 389 F389 := .inl ⟨f39, func39, by kernel_rfl, c389, fun e h => by cases h⟩
theorem t390 (keep : Nat → Bool) : Tied ctx keep 390 F390 := .inl ⟨f40, func40, by kernel_rfl, c390, fun e h => by cases h⟩
theorem t391 (keep : Nat → Bool) : Tied ctx keep 391 F391 := .inl ⟨f41, func41, by kernel_rfl, c391, fun e h => by cases h⟩
theorem t392 (keep : Nat → Bool) : Tied ctx keep 392 F392 := .inl ⟨f42, func42, by kernel_rfl, c392, fun e h => by cases h⟩
theorem t393 (keep : Nat → Bool) : Tied ctx keep 393 F393 := .inl ⟨f43, func43, by kernel_rfl, c393, fun e h => by cases h⟩
theorem t394 (keep : Nat → Bool) : Tied ctx keep 394 F394 := .inl ⟨f44, func44, by kernel_rfl, c394, fun e h => by cases h⟩
theorem t395 (keep : Nat → Bool) : Tied ctx keep 395 F395 := .inl ⟨f46, func46, by kernel_rfl, c395, fun e h => by cases h⟩
theorem t396 (keep : Nat → Bool) : Tied ctx keep 396 F396 := .inl ⟨f45, func45, by kernel_rfl, c396, fun e h => by cases h⟩
theorem t398 (keep : Nat → Bool) : Tied ctx keep 398 F398 := .inl ⟨f70, func70, by kernel_rfl, c398, fun e h => by cases h⟩
theorem t399 (keep : Nat → Bool) : Tied ctx keep 399 F399 := .inl ⟨f71, func71, by kernel_rfl, c399, fun e h => by cases h⟩
theorem t400 (keep : Nat → Bool) : Tied ctx keep 400 F400 := .inl ⟨f72, func72, by kernel_rfl, c400, fun e h => by cases h⟩
theorem t401 (keep : Nat → Bool) : Tied ctx keep 401 F401 := .inl ⟨f73, func73, by kernel_rfl, c401, fun e h => by cases h⟩
theorem t402 (keep : Nat → Bool) : Tied ctx keep 402 F402 := .inl ⟨f75, func75, by kernel_rfl, c402, fun e h => by cases h⟩
theorem t403 (keep : Nat → Bool) : Tied ctx keep 403 F403 := .inl ⟨f76, func76, by kernel_rfl, c403, fun e h => by cases h⟩
theorem t404 (keep : Nat → Bool) : Tied ctx keep 404 F404 := .inl ⟨f78, func78, by kernel_rfl, c404, fun e h => by cases h⟩
theorem t405 (keep : Nat → Bool) : Tied ctx keep 405 F405 := .inl ⟨f77, func77, by kernel_rfl, c405, fun e h => by cases h⟩
theorem t406 (keep : Nat → Bool) : Tied ctx keep 406 F406 := .inl ⟨f79, func79, by kernel_rfl, c406, fun e h => by cases h⟩
theorem t407 (keep : Nat → Bool) : Tied ctx keep 407 F407 := .inl ⟨f80, func80, by kernel_rfl, c407, fun e h => by cases h⟩
theorem t408 (keep : Nat → Bool) : Tied ctx keep 408 F408 := .inl ⟨f81, func81, by kernel_rfl, c408, fun e h => by cases h⟩
theorem t409 (keep : Nat → Bool) : Tied ctx keep 409 F409 := .inl ⟨f118, func118, by kernel_rfl, c409, fun e h => by cases h⟩
theorem t410 (keep : Nat → Bool) : Tied ctx keep 410 F410 := .inl ⟨f120, func120, by kernel_rfl, c410, fun e h => by cases h⟩
theorem t411 (keep : Nat → Bool) : Tied ctx keep 411 F411 := .inl ⟨f119, func119, by kernel_rfl, c411, fun e h => by cases h⟩
theorem t412 (keep : Nat → Bool) : Tied ctx keep 412 F412 := .inl ⟨f128, func128, by kernel_rfl, c412, fun e h => by cases h⟩
theorem t413 (keep : Nat → Bool) : Tied ctx keep 413 F413 := .inl ⟨f129, func129, by kernel_rfl, c413, fun e h => by cases h⟩
theorem t414 (keep : Nat → Bool) : Tied ctx keep 414 F414 := .inl ⟨f130, func130, by kernel_rfl, c414, fun e h => by cases h⟩
theorem t415 (keep : Nat → Bool) : Tied ctx keep 415 F415 := .inl ⟨f132, func132, by kernel_rfl, c415, fun e h => by cases h⟩
theorem t416 (keep : Nat → Bool) : Tied ctx keep 416 F416 := .inl ⟨f131, func131, by kernel_rfl, c416, fun e h => by cases h⟩
theorem t417 (keep : Nat → Bool) : Tied ctx keep 417 F417 := .inl ⟨f136, func136, by kernel_rfl, c417, fun e h => by cases h⟩
theorem t418 (keep : Nat → Bool) : Tied ctx keep 418 F418 := .inl ⟨f135, func135, by kernel_rfl, c418, fun e h => by cases h⟩
theorem t419 (keep : Nat → Bool) : Tied ctx keep 419 F419 := .inl ⟨f137, func137, by kernel_rfl, c419, fun e h => by cases h⟩
theorem t420 (keep : Nat → Bool) : Tied ctx keep 420 F420 := .inl ⟨f187, func187, by kernel_rfl, c420, fun e h => by cases h⟩
theorem t421 (keep : Nat → Bool) : Tied ctx keep 421 F421 := .inl ⟨f121, func121, by kernel_rfl, c421, fun e h => by cases h⟩
theorem t422 (keep : Nat → Bool) : Tied ctx keep 422 F422 := .inl ⟨f122, func122, by kernel_rfl, c422, fun e h => by cases h⟩
theorem t423 (keep : Nat → Bool) : Tied ctx keep 423 F423 := .inl ⟨f123, func123, by kernel_rfl, c423, fun e h => by cases h⟩
theorem t424 (keep : Nat → Bool) : Tied ctx keep 424 F424 := .inl ⟨f124, func124, by kernel_rfl, c424, fun e h => by cases h⟩
theorem t425 (keep : Nat → Bool) : Tied ctx keep 425 F425 := .inl ⟨f125, func125, by kernel_rfl, c425, fun e h => by cases h⟩
theorem t426 (keep : Nat → Bool) : Tied ctx keep 426 F426 := .inl ⟨f127, func127, by kernel_rfl, c426, fun e h => by cases h⟩
theorem t427 (keep : Nat → Bool) : Tied ctx keep 427 F427 := .inl ⟨f126, func126, by kernel_rfl, c427, fun e h => by cases h⟩
theorem t428 (keep : Nat → Bool) : Tied ctx keep 428 F428 := .inl ⟨f188, func188, by kernel_rfl, c428, fun e h => by cases h⟩
theorem t429 (keep : Nat → Bool) : Tied ctx keep 429 F429 := .inl ⟨f197, func197, by kernel_rfl, c429, fun e h => by cases h⟩
theorem t430 (keep : Nat → Bool) : Tied ctx keep 430 F430 := .inl ⟨f133, func133, by kernel_rfl, c430, fun e h => by cases h⟩
theorem t431 (keep : Nat → Bool) : Tied ctx keep 431 F431 := .inl ⟨f193, func193, by kernel_rfl, c431, fun e h => by cases h⟩
theorem t432 (keep : Nat → Bool) : Tied ctx keep 432 F432 := .inl ⟨f231, func231, by kernel_rfl, c432, fun e h => by cases h⟩
theorem t433 (keep : Nat → Bool) : Tied ctx keep 433 F433 := .inl ⟨f230, func230, by kernel_rfl, c433, fun e h => by cases h⟩
theorem t435 (keep : Nat → Bool) : Tied ctx keep 435 F435 := .inl ⟨f232, func232, by kernel_rfl, c435, fun e h => by cases h⟩
theorem t438 (keep : Nat → Bool) : Tied ctx keep 438 F438 := .inl ⟨f190, func190, by kernel_rfl, c438, fun e h => by cases h⟩
theorem t439 (keep : Nat → Bool) : Tied ctx keep 439 F439 := .inl ⟨f189, func189, by kernel_rfl, c439, fun e h => by cases h⟩
theorem t440 (keep : Nat → Bool) : Tied ctx keep 440 F440 := .inl ⟨f191, func191, by kernel_rfl, c440, fun e h => by cases h⟩
theorem t441 (keep : Nat → Bool) : Tied ctx keep 441 F441 := .inl ⟨f192, func192, by kernel_rfl, c441, fun e h => by cases h⟩
theorem t442 (keep : Nat → Bool) : Tied ctx keep 442 F442 := .inl ⟨f194, func194, by kernel_rfl, c442, fun e h => by cases h⟩
theorem t444 (keep : Nat → Bool) : Tied ctx keep 444 F444 := .inl ⟨f195, func195, by kernel_rfl, c444, fun e h => by cases h⟩
theorem t445 (keep : Nat → Bool) : Tied ctx keep 445 F445 := .inl ⟨f236, func236, by kernel_rfl, c445, fun e h => by cases h⟩
theorem t446 (keep : Nat → Bool) : Tied ctx keep 446 F446 := .inl ⟨f237, func237, by kernel_rfl, c446, fun e h => by cases h⟩
theorem t447 (keep : Nat → Bool) : Tied ctx keep 447 F447 := .inl ⟨f238, func238, by kernel_rfl, c447, fun e h => by cases h⟩
theorem t448 (keep : Nat → Bool) : Tied ctx keep 448 F448 := .inl ⟨f239, func239, by kernel_rfl, c448, fun e h => by cases h⟩
theorem t449 (keep : Nat → Bool) : Tied ctx keep 449 F449 := .inl ⟨f240, func240, by kernel_rfl, c449, fun e h => by cases h⟩
theorem t450 (keep : Nat → Bool) : Tied ctx keep 450 F450 := .inl ⟨f241, func241, by kernel_rfl, c450, fun e h => by cases h⟩
theorem t453 (keep : Nat → Bool) : Tied ctx keep 453 F453 := .inl ⟨f244, func244, by kernel_rfl, c453, fun e h => by cases h⟩
theorem t454 (keep : Nat → Bool) : Tied ctx keep 454 F454 := .inl ⟨f246, func246, by kernel_rfl, c454, fun e h => by cases h⟩
theorem t455 (keep : Nat → Bool) : Tied ctx keep 455 F455 := .inl ⟨f245, func245, by kernel_rfl, c455, fun e h => by cases h⟩
end Go.Proofs.YtibjieaohbnpgaaGreatDoor.Ae
namespace Go.Proofs.YtibjieaohbnpgaaGreatDoor.Ae
open Go Go.AE Go.AE.Fns
set_option maxRecDepth 100000
theorem tied (keep : Nat → Bool) (h140 : keep 140 = false) (h141 : keep 141 = false) (h144 : keep 144 = false) (h145 : keep 145 = false) (h146 : keep 146 = false) (h147 : keep 147 = false) (h205 : keep 205 = false) (h206 : keep 206 = false) (h207 : keep 207 = false) (h208 : keep 208 = false) : lpT.All (Tied ctx keep) := ⟨t146 keep h146, ⟨t79 keep, ⟨t38 keep, ⟨t21 keep, ⟨t8 keep, ⟨t4 keep, ⟨t2 keep, ⟨t1 keep, trivial, trivial⟩, ⟨t3 keep, trivial, trivial⟩⟩, ⟨t6 keep, ⟨t5 keep, trivial, trivial⟩, ⟨t7 keep, trivial, trivial⟩⟩⟩, ⟨t12 keep, ⟨t10 keep, ⟨t9 keep, trivial, trivial⟩, ⟨t11 keep, trivial, trivial⟩⟩, ⟨t14 keep, ⟨t13 keep, trivial, trivial⟩, ⟨t16 keep, trivial, trivial⟩⟩⟩⟩, ⟨t30 keep, ⟨t25 keep, ⟨t23 keep, ⟨t22 keep, trivial, trivial⟩, ⟨t24 keep, trivial, trivial⟩⟩, ⟨t27 keep, ⟨t26 keep, trivial, trivial⟩, ⟨t29 keep, trivial, trivial⟩⟩⟩, ⟨t34 keep, ⟨t32 keep, ⟨t31 keep, trivial, trivial⟩, ⟨t33 keep, trivial, trivial⟩⟩, ⟨t36 keep, ⟨t35 keep, trivial, trivial⟩, ⟨t37 keep, trivial, trivial⟩⟩⟩⟩⟩, ⟨t57 keep, ⟨t48 keep, ⟨t42 keep, ⟨t40 keep, ⟨t39 keep, trivial, trivial⟩, ⟨t41 keep, trivial, trivial⟩⟩, ⟨t44 keep, ⟨t43 keep, trivial, trivial⟩, ⟨t45 keep, trivial, trivial⟩⟩⟩, ⟨t53 keep, ⟨t50 keep, ⟨t49 keep, trivial, trivial⟩, ⟨t52 keep, trivial, trivial⟩⟩, ⟨t55 keep, ⟨t54 keep, trivial, trivial⟩, ⟨t56 keep, trivial, trivial⟩⟩⟩⟩, ⟨t65 keep, ⟨t61 keep, ⟨t59 keep, ⟨t58 keep, trivial, trivial⟩, ⟨t60 keep, trivial, trivial⟩⟩, ⟨t63 keep, ⟨t62 keep, trivial, trivial⟩, ⟨t64 keep, trivial, trivial⟩⟩⟩, ⟨t69 keep, ⟨t67 keep, ⟨t66 keep, trivial, trivial⟩, ⟨t68 keep, trivial, trivial⟩⟩, ⟨t78 keep, ⟨t71 keep, trivial, trivial⟩, trivial⟩⟩⟩⟩⟩, ⟨t113 keep, ⟨t97 keep, ⟨t89 keep, ⟨t85 keep, ⟨t82 keep, ⟨t80 keep, trivial, trivial⟩, ⟨t84 keep, trivial, trivial⟩⟩, ⟨t87 keep, ⟨t86 keep, trivial, trivial⟩, ⟨t88 keep, trivial, trivial⟩⟩⟩, ⟨t93 keep, ⟨t91 keep, ⟨t90 keep, trivial, trivial⟩, ⟨t92 keep, trivial, trivial⟩⟩, ⟨t95 keep, ⟨t94 keep, trivial, trivial⟩, ⟨t96 keep, trivial, trivial⟩⟩⟩⟩, ⟨t105 keep, ⟨t101 keep, ⟨t99 keep, ⟨t98 keep, trivial, trivial⟩, ⟨t100 keep, trivial, trivial⟩⟩, ⟨t103 keep, ⟨t102 keep, trivial, trivial⟩, ⟨t104 keep, trivial, trivial⟩⟩⟩, ⟨t109 keep, ⟨t107 keep, ⟨t106 keep, trivial, trivial⟩, ⟨t108 keep, trivial, trivial⟩⟩, ⟨t111 keep, ⟨t110 keep, trivial, trivial⟩, ⟨t112 keep, trivial, trivial⟩⟩⟩⟩⟩, ⟨t129 keep, ⟨t121 keep, ⟨t117 keep, ⟨t115 keep, ⟨t114 keep, trivial, trivial⟩, ⟨t116 keep, trivial, trivial⟩⟩, ⟨t119 keep, ⟨t118 keep, trivial, trivial⟩, ⟨t120 keep, trivial, trivial⟩⟩⟩, ⟨t125 keep, ⟨t123 keep, ⟨t122 keep, trivial, trivial⟩, ⟨t124 keep, trivial, trivial⟩⟩, ⟨t127 keep, ⟨t126 keep, trivial, trivial⟩, ⟨t128 keep, trivial, trivial⟩⟩⟩⟩, ⟨t137 keep, ⟨t133 keep, ⟨t131 keep, ⟨t130 keep, trivial, trivial⟩, ⟨t132 keep, trivial, trivial⟩⟩, ⟨t135 keep, ⟨t134 keep, trivial, trivial⟩, ⟨t136 keep, trivial, trivial⟩⟩⟩, ⟨t142 keep, ⟨t140 keep h140, ⟨t138 keep, trivial, trivial⟩, ⟨t141 keep h141, trivial, trivial⟩⟩, ⟨t145 keep h145, ⟨t144 keep h144, trivial, trivial⟩, trivial⟩⟩⟩⟩⟩⟩, ⟨t380 keep, ⟨t185 keep, ⟨t166 keep, ⟨t157 keep, ⟨t153 keep, ⟨t148 keep, ⟨t147 keep h147, trivial, trivial⟩, ⟨t151 keep, trivial, trivial⟩⟩, ⟨t155 keep, ⟨t154 keep, trivial, trivial⟩, ⟨t156 keep, trivial, trivial⟩⟩⟩, ⟨t162 keep, ⟨t159 keep, ⟨t158 keep, trivial, trivial⟩, ⟨t161 keep, trivial, trivial⟩⟩, ⟨t164 keep, ⟨t163 keep, trivial, trivial⟩, ⟨t165 keep, trivial, trivial⟩⟩⟩⟩, ⟨t175 keep, ⟨t170 keep, ⟨t168 keep, ⟨t167 keep, trivial, trivial⟩, ⟨t169 keep, trivial, trivial⟩⟩, ⟨t172 keep, ⟨t171 keep, trivial, trivial⟩, ⟨t174 keep, trivial, trivial⟩⟩⟩, ⟨t179 keep, ⟨t177 keep, ⟨t176 keep, trivial, trivial⟩, ⟨t178 keep, trivial, trivial⟩⟩, ⟨t181 keep, ⟨t180 keep, trivial, trivial⟩, ⟨t182 keep, trivial, trivial⟩⟩⟩⟩⟩, ⟨t202 keep, ⟨t194 keep, ⟨t190 keep, ⟨t188 keep, ⟨t187 keep, trivial, trivial⟩, ⟨t189 keep, trivial, trivial⟩⟩, ⟨t192 keep, ⟨t191 keep, trivial, trivial⟩, ⟨t193 keep, trivial, trivial⟩⟩⟩, ⟨t198 keep, ⟨t196 keep, ⟨t195 keep, trivial, trivial⟩, ⟨t197 keep, trivial, trivial⟩⟩, ⟨t200 keep, ⟨t199 keep, trivial, trivial⟩, ⟨t201 keep, trivial, trivial⟩⟩⟩⟩, ⟨t210 keep, ⟨t206 keep h206, ⟨t204 keep, ⟨t203 keep, trivial, trivial⟩, ⟨t205 keep h205, trivial, trivial⟩⟩, ⟨t208 keep h208, ⟨t207 keep h207, trivial, trivial⟩, ⟨t209 keep, trivial, trivial⟩⟩⟩, ⟨t228 keep, ⟨t212 keep, ⟨t211 keep, trivial, trivial⟩, ⟨t213 keep, trivial, trivial⟩⟩, ⟨t264 keep, ⟨t236 keep, trivial, trivial⟩, trivial⟩⟩⟩⟩⟩, ⟨t419 keep, ⟨t403 keep, ⟨t394 keep, ⟨t390 keep, ⟨t382 keep, ⟨t381 keep, trivial, trivial⟩, ⟨t389 keep, trivial, trivial⟩⟩, ⟨t392 keep, ⟨t391 keep, trivial, trivial⟩, ⟨t393 keep, trivial, trivial⟩⟩⟩, ⟨t399 keep, ⟨t396 keep, ⟨t395 keep, trivial, trivial⟩, ⟨t398 keep, trivial, trivial⟩⟩, ⟨t401 keep, ⟨t400 keep, trivial, trivial⟩, ⟨t402 keep, trivial, trivial⟩⟩⟩⟩, ⟨t411 keep, ⟨t407 keep, ⟨t405 keep, ⟨t404 keep, trivial, trivial⟩, ⟨t406 keep, trivial, trivial⟩⟩, ⟨t409 keep, ⟨t408 keep, trivial, trivial⟩, ⟨t410 keep, trivial, trivial⟩⟩⟩, ⟨t415 keep, ⟨t413 keep, ⟨t412 keep, trivial, trivial⟩, ⟨t414 keep, trivial, trivial⟩⟩, ⟨t417 keep, ⟨t416 keep, trivial, trivial⟩, ⟨t418 keep, trivial, trivial⟩⟩⟩⟩⟩, ⟨t438 keep, ⟨t427 keep, ⟨t423 keep, ⟨t421 keep, ⟨t420 keep, trivial, trivial⟩, ⟨t422 keep, trivial, trivial⟩⟩, ⟨t425 keep, ⟨t424 keep, trivial, trivial⟩, ⟨t426 keep, trivial, trivial⟩⟩⟩, ⟨t431 keep, ⟨t429 keep, ⟨t428 keep, trivial, trivial⟩, ⟨t430 keep, trivial, trivial⟩⟩, ⟨t433 keep, ⟨t432 keep, trivial, trivial⟩, ⟨t435 keep, trivial, trivial⟩⟩⟩⟩, ⟨t447 keep, ⟨t442 keep, ⟨t440 keep, ⟨t439 keep, trivial, trivial⟩, ⟨t441 keep, trivial, trivial⟩⟩, ⟨t445 keep, ⟨t444 keep, trivial, trivial⟩, ⟨t446 keep, trivial, trivial⟩⟩⟩, ⟨t453 keep, ⟨t449 keep, ⟨t448 keep, trivial, trivial⟩, ⟨t450 keep, trivial, trivial⟩⟩, ⟨t455 keep, ⟨t454 keep, trivial, trivial⟩, trivial⟩⟩⟩⟩⟩⟩⟩
theorem onceOk : OnceOk ctx lpT.get once onceN where
  fn := ⟨Tryz.f255, _, _, _, _, _, _, _, _, _, _, _, 0, 1, 2, 3, 4, 0, 0, 279, 280, #[285], #[281, 4], Tryz.func255, ne_of_beq_false (by kernel_rfl), rfl, rfl, rfl, by kernel_rfl, by kernel_rfl, by kernel_rfl, by kernel_rfl, by kernel_rfl, rfl, rfl, by kernel_rfl, by kernel_rfl⟩
  store := ⟨_, _, _, _, (by kernel_rfl : lpT.get 30 = some F30), by kernel_rfl⟩
  unlock := ⟨_, _, _, _, (by kernel_rfl : lpT.get 26 = some F26), by kernel_rfl⟩
  storeF := ⟨Tryz.f280, Tryz.func280, by kernel_rfl, ne_of_beq_false (by kernel_rfl)⟩
  unlockF := ⟨Tryz.f279, Tryz.func279, by kernel_rfl, ne_of_beq_false (by kernel_rfl)⟩
end Go.Proofs.YtibjieaohbnpgaaGreatDoor.Ae
namespace Go.Proofs.YtibjieaohbnpgaaGreatDoor.Ae
open Go Go.AE Go.AE.Fns
set_option maxRecDepth 100000
section
variable {W : World} {ps : List MemPlace} (hl : DataW.LaidVars ctx.P W Rows.embedOriginsUptoRow.laid ps)
include hl
theorem gl1 : VRel ctx loc0 (fun _ => False) W (.elt ([1, 10, 100, 1000, 10000, 100000, 1000000, 10000000, 100000000, 1000000000, 10000000000, 100000000000, 1000000000000, 10000000000000, 100000000000000, 1000000000000000, 10000000000000000, 100000000000000000, 1000000000000000000, 10000000000000000000].map (.int .u64)) 0) (.pointer (some ⟨1, 0, none⟩)) := glob_ints hl (i := 2) (n := "internal/strconv.uint64pow10") rfl (t := 303) (e := 195) (m := 20) (by kernel_rfl) (by kernel_rfl) (by kernel_rfl) (by kernel_rfl) (by kernel_rfl) (by kernel_rfl) rfl
theorem gl4 : VRel ctx loc0 (fun _ => False) W (.elt [.bad] 0) (.pointer (some ⟨4, 0, none⟩)) := glob_bad hl (i := 5) (n := "strconv.ErrSyntax") rfl (t := 128) (by kernel_rfl) (by kernel_rfl) (by kernel_rfl)
theorem gl5 : VRel ctx loc0 (fun _ => False) W (.elt [.bad] 0) (.pointer (some ⟨5, 0, none⟩)) := glob_bad hl (i := 4) (n := "strconv.ErrRange") rfl (t := 128) (by kernel_rfl) (by kernel_rfl) (by kernel_rfl)
theorem gl6 : VRel ctx loc0 (fun _ => False) W (.elt ([0, 1, 28, 2, 29, 14, 24, 3, 30, 22, 20, 15, 25, 17, 4, 8, 31, 27, 13, 23, 21, 19, 16, 7, 26, 12, 18, 6, 11, 5, 10, 9].map (.int .u8)) 0) (.pointer (some ⟨6, 0, none⟩)) := glob_ints hl (i := 0) (n := "math/bits.deBruijn32tab") rfl (t := 366) (e := 5) (m := 32) (by kernel_rfl) (by kernel_rfl) (by kernel_rfl) (by kernel_rfl) (by kernel_rfl) (by kernel_rfl) rfl
theorem gl7 : VRel ctx loc0 (fun _ => False) W (.elt ([0, 1, 56, 2, 57, 49, 28, 3, 61, 58, 42, 50, 38, 29, 17, 4, 62, 47, 59, 36, 45, 43, 51, 22, 53, 39, 33, 30, 24, 18, 12, 5, 63, 55, 48, 27, 60, 41, 37, 16, 46, 35, 44, 21, 52, 32, 23, 11, 54, 26, 40, 15, 34, 20, 31, 10, 25, 14, 19, 9, 13, 8, 7, 6].map (.int .u8)) 0) (.pointer (some ⟨7, 0, none⟩)) := glob_ints hl (i := 1) (n := "math/bits.deBruijn64tab") rfl (t := 367) (e := 5) (m := 64) (by kernel_rfl) (by kernel_rfl) (by kernel_rfl) (by kernel_rfl) (by kernel_rfl) (by kernel_rfl) rfl
theorem gl_ok (g : Nat) (v : AV) (hg : ctx.τ.gl g = some v) : VRel ctx loc0 (fun _ => False) W v (.pointer (some ⟨g, 0, none⟩)) :=
  NT.get_all (t := seat.gl) (p := fun g v => VRel ctx loc0 (fun _ => False) W v (.pointer (some ⟨g, 0, none⟩))) ⟨gl5 hl, ⟨gl4 hl, ⟨gl1 hl, trivial, trivial⟩, trivial⟩, ⟨gl7 hl, ⟨gl6 hl, trivial, trivial⟩, trivial⟩⟩ hg
end
end Go.Proofs.YtibjieaohbnpgaaGreatDoor.Ae
